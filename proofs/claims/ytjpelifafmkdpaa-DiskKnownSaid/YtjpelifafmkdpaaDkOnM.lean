/- On of a disk: what its walk asks for. -/
import Derived.Test.YtjpelifafmkdpaaDkCopy
namespace Go.Proofs.Ytjpelifafmkdpaa.DkW
open Go.RowKit Go.Shelf Mem Rng
set_option linter.unusedVariables false

/-- One late write settled by its fate. -/
def fate1 (fates : List UInt8) (k : Nat) (x : Int × List UInt8) (S : Int → List UInt8) : Int → List UInt8 := upd S x.1 (x.2.take (reach fates k) ++ (S x.1).drop (reach fates k))
theorem fated_snoc (fates : List UInt8) : ∀ (L : List (Int × List UInt8)) (k : Nat) (x : Int × List UInt8) (S : Int → List UInt8), fated fates k (L ++ [x]) S = fate1 fates (k + L.length) x (fated fates k L S)
  | [], k, x, S => by cases x; rfl
  | (i, b) :: r, k, x, S => by
    show fated fates (k + 1) (r ++ [x]) _ = _
    rw [fated_snoc fates r (k + 1) x]
    rw [List.length_cons, show k + 1 + r.length = k + (r.length + 1) from by omega]
    rfl
theorem reach_le (fates : List UInt8) (k : Nat) : reach fates k ≤ 256 := by
  unfold reach
  split
  · exact Nat.zero_le _
  · rename_i x _
    have := x.toNat_lt
    split <;> omega
theorem fate1_len {fates : List UInt8} {k : Nat} {x : Int × List UInt8} {S : Int → List UInt8} (hx : x.2.length = 256) (hS : ∀ i, (S i).length = 256) (i : Int) : (fate1 fates k x S i).length = 256 := by
  unfold fate1 upd
  have := reach_le fates k
  split
  · rw [List.length_append, List.length_take, List.length_drop, hx, hS]; omega
  · exact hS i
theorem fated_len (fates : List UInt8) : ∀ (L : List (Int × List UInt8)) (k : Nat) (S : Int → List UInt8), (∀ x ∈ L, x.2.length = 256) → (∀ i, (S i).length = 256) → ∀ i, (fated fates k L S i).length = 256
  | [], _, _, _, hS, i => hS i
  | (j, b) :: r, k, S, hL, hS, i => fated_len fates r (k + 1) _ (fun y hy => hL y (by simp [hy])) (fate1_len (x := (j, b)) (hL _ (by simp)) hS) i
theorem late_get : ∀ (L : List (Int × List UInt8)) (j q : Nat) (x : Int × List UInt8), (∀ y ∈ L, y.2.length = 256) → L[j]? = some x → q < 257 → (L.flatMap lcells)[j * 257 + q]? = (lcells x)[q]?
  | [], _, _, _, _, h, _ => by cases h
  | y :: r, 0, q, x, hL, h, hq => by
    injection h with h
    subst h
    rw [List.flatMap_cons, Nat.zero_mul, Nat.zero_add, List.getElem?_append_left (by rw [lcells_len (hL _ (by simp))]; exact hq)]
  | y :: r, j + 1, q, x, hL, h, hq => by
    have hy := lcells_len (hL y (by simp))
    rw [List.flatMap_cons, List.getElem?_append_right (by rw [hy]; omega), hy, show (j + 1) * 257 + q - 257 = j * 257 + q from by omega]
    exact late_get r j q x (fun z hz => hL z (by simp [hz])) h hq
/-- The j-th late write, where it lies. -/
theorem late_at {w : World} {B : Nat} {A : Option Addr} {L : List (Int × List UInt8)} (h : Cells w B A (L.flatMap lcells)) (hL : ∀ y ∈ L, y.2.length = 256) {j : Nat} {x : Int × List UInt8} (hx : L[j]? = some x) : ∃ g off, A = some ⟨g, off, none⟩ ∧ g < B ∧ w.rangeAt g (off + j * 257) (lcells x) := by
  have hxl := lcells_len (hL x (List.mem_of_getElem? hx))
  have h0 := late_get L j 0 x hL hx (by decide)
  have hpos : 0 < (L.flatMap lcells).length := by
    have h1 : (lcells x)[0]? = some (.int .i64 x.1) := rfl
    rw [h1] at h0
    have := (List.getElem?_eq_some_iff.1 h0).1
    omega
  obtain ⟨g, off, e, hg, hc⟩ := h hpos
  refine ⟨g, off, e, hg, fun q v hv => ?_⟩
  have hq : q < 257 := by rw [← hxl]; exact (List.getElem?_eq_some_iff.1 hv).1
  have := hc (j * 257 + q) v (by rw [late_get L j q x hL hx hq]; exact hv)
  rwa [← Nat.add_assoc] at this
theorem exec_lookup {P : Program} {o : Oper} {a : Act} {w : World} (ty : TypeId) (x y : Operand) (ho : o.op = .lookup ty x y false) (q r : Value) (hx : a.eval x = q) (hy : a.eval y = r) (v : Value) (h : (Instr.lookup ty q r false).run P w = .ok v w) : (execOp a.eval o).run P w = .ok (.value v) w := by
  unfold execOp
  simp only [ho, hx, hy, Sem.run_bind, h, Result.andThen_ok, Sem.run_pure]
theorem step_store_new {ops : Array Oper} {o : Oper} {a : Act} {R : Act → World → Prop} {Q : Exit → Act → World → Prop} {E : Prop} (w : World) (hgd : o.guard = none) (ty : TypeId) (x y : Operand) (ho : o.op = .store ty x y) (T : TypeId) (old new : Array Value)
    (hx : a.eval x = .pointer (some ⟨w.heap.size, 0, none⟩)) (hy : a.eval y = .agg new) (hi : (Try.prog.info? ty).map (·.size) = some new.size) (hold : old.size = new.size) (h1 : new.all (·.oneCell') = true)
    (h : ∀ w', Blk w' w.heap.size T new → Below w.heap.size w w' → w'.heap.size = w.heap.size + 1 → R (a.put o.dst undef) w') : if Region.wanted o (yielded ops a.tmps) = true then Oper.wp Try.prog o a (w.alloc (.cells old T)) R Q else E := by
  rw [if_pos (by simp [Region.wanted, hgd])]
  refine wp_store_row ty x y ho w.heap.size new hx hy T old (new_heap w _) hi hold h1 (h _ (blkRow (Blk.new w T old) new) ?_ ?_)
  · exact (frRow (Fr.quiet (S := fun _ => False) (nextA (Mem.start w) (.cells old T))) (fun hh => by omega) new).below (Nat.le_refl _) fun _ h => h.elim
  · unfold World.setRow; simp
theorem step_copyin {ops : Array Oper} {o : Oper} {a : Act} {R : Act → World → Prop} {Q : Exit → Act → World → Prop} {E : Prop} (w : World) (hgd : o.guard = none) (d s : Operand) (ho : o.op = .call { callee := .builtin .copy, args := #[d, s], argTypes := #[23, 23] })
    (g off n n' : Nat) (A : Option Addr) (m c : Nat) (l : List UInt8) (T : TypeId) (cur : Array Value) (hd : a.eval d = .slice (some ⟨g, off, none⟩) n n') (hs : a.eval s = .slice A m c) (hl : l.length = Nat.min m n)
    (hB : Blk w g T cur) (hfit : off + l.length ≤ cur.size) (hA : Bytes w w.heap.size A l)
    (h : ∀ w' k, Blk w' g T (cur.toList.take off ++ l.map u8v ++ cur.toList.drop (off + l.length)).toArray → Fr (fun k => k = g) w w' → w'.heap.size = w.heap.size → R (a.put o.dst (.int .i64 k)) w') : if Region.wanted o (yielded ops a.tmps) = true then Oper.wp Try.prog o a w R Q else E := by
  rw [if_pos (by simp [Region.wanted, hgd])]
  unfold Oper.wp execOp
  by_cases hz : l.length = 0
  · have hrun := run_copy_none (P := Try.prog) w 23 23 o.type 5 (some ⟨g, off, none⟩) A n n' m c Try.underlying23 u1info (by rw [← hl]; exact hz)
    simp only [ho, resolve, invoke, builtin, Sem.run_bind, Sem.run_pure, Result.andThen_ok, List.map_toArray, List.map_cons, List.map_nil, hd, hs, hrun]
    refine h w 0 ?_ (Fr.refl _ w) rfl
    obtain rfl : l = [] := List.eq_nil_of_length_eq_zero hz
    simp only [List.map_nil, List.append_nil, List.length_nil, Nat.add_zero, List.take_append_drop, Array.toArray_toList]
    exact hB
  · obtain ⟨b, o2, rfl, _, hc⟩ := hA (by rw [List.length_map]; omega)
    have hrun := run_copy_row (P := Try.prog) w 23 23 o.type 5 g off n n' ⟨b, o2, none⟩ m c cur T (l.map u8v) Try.underlying23 u1info hB (by rw [List.length_map]; exact hl) (fun j v hv => by rw [Addr.add_lit]; exact hc j v hv) (by rw [List.length_map]; exact hfit) (u8v_one (l := l))
    simp only [ho, resolve, invoke, builtin, Sem.run_bind, Sem.run_pure, Result.andThen_ok, List.map_toArray, List.map_cons, List.map_nil, hd, hs, hrun]
    rw [List.length_map]
    exact h _ _ (blkRow hB _) (frRow (Fr.refl (fun k => k = g) w) (fun _ => rfl) _) (by unfold World.setRow; simp)
theorem bb_copied {b l : List UInt8} {r : Nat} (hl : l.length = 256) (hr : r ≤ 256) : ((bcells b).toList.take 0 ++ (l.take r).map u8v ++ (bcells b).toList.drop (0 + (l.take r).length)).toArray = bcells (l.take r ++ b.drop r) := by
  apply Array.ext'
  show (b.map u8v).take 0 ++ (l.take r).map u8v ++ (b.map u8v).drop (0 + (l.take r).length) = (l.take r ++ b.drop r).map u8v
  rw [List.take_zero, List.nil_append, Nat.zero_add, List.length_take, hl, Nat.min_eq_left hr, List.map_append, List.map_drop]
theorem on_next {fates : List UInt8} {L : List (Int × List UInt8)} {S : Int → List UInt8} {j r : Nat} {x : Int × List UInt8} {nb : List UInt8} (hx : L[j]? = some x) (hr : reach fates j = r) (hnb : x.2.take r ++ (fated fates 0 (L.take j) S x.1).drop r = nb) : fated fates 0 (L.take (j + 1)) S = upd (fated fates 0 (L.take j) S) x.1 nb := by
  obtain ⟨hj, e⟩ := List.getElem?_eq_some_iff.1 hx
  rw [List.take_succ_eq_append_getElem hj, e, fated_snoc, List.length_take, Nat.zero_add, Nat.min_eq_left (Nat.le_of_lt hj)]
  unfold fate1
  rw [hr, hnb]
theorem Dk.no_byte {F : Nat → Prop} {p ms mn c m : Nat} {A : Option Addr} {s : DS} {w : World} (h : Dk F p ms mn A c m s w) (o : Nat) (x : Int) : w.cell? ⟨p, o, none⟩ ≠ some (.int .u8 x) := by
  rw [h.blk.cell]
  intro e
  rcases o with _ | _ | _ | _ | _ | _ | _ | o <;> simp at e
theorem MB.no_cell {w : World} {b n : Nat} {f : Int → List UInt8} (h : MB w b n f) (o : Nat) : w.cell? ⟨b, o, none⟩ = none := by
  obtain ⟨D, ⟨es, clock, hb, r⟩, h2⟩ := h
  unfold World.cell?
  rw [hb]
theorem lc_bytes {w : World} {g B : Nat} {T : TypeId} {x : Int × List UInt8} (h : Blk w g T (lc x)) (hB : g < B) : Bytes w B (some ⟨g, 1, none⟩) x.2 := fun _ =>
  ⟨g, 1, rfl, hB, fun j v hv => by rw [h.cell, ← hv]; simp [lc, lcells, Nat.add_comm 1 j]⟩
end Go.Proofs.Ytjpelifafmkdpaa.DkW
