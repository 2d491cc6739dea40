/- append onto the bytes of a text. -/
import Derived.Test.YtebdmfmadbikaaaDoorFr
import Derived.Laws.IdiomCopy
namespace Go.Proofs.YtebdmfmadbikaaaDoor.Mem
open Go.RowKit
set_option linter.unusedVariables false

/-- Bytes made of a text: the block is as large as the capacity, and may be written. -/
def BRow (w : World) (T : TypeId) (g c : Nat) (xs : List Value) : Prop :=
  ∃ cur fz, w.heap[g]? = some (.cells cur T fz) ∧ cur.size ≤ fz.1 ∧ cur.size = c ∧ cur.toList.take xs.length = xs ∧ xs.length ≤ c ∧ c ≤ maxLen
section
variable {w w' : World} {T : TypeId} {g c : Nat} {xs : List Value}
theorem BRow.row (h : BRow w T g c xs) : Row w g (some ⟨g, 0, none⟩) xs := fun _ => by
  obtain ⟨cur, fz, h1, h2, h3, h4, _⟩ := h
  exact ⟨g, cur, T, fz, rfl, Nat.le_refl _, h1, .inr h2, h4⟩
theorem BRow.keep (h : BRow w T g c xs) (hb : Below w.heap.size w w') : BRow w' T g c xs := by
  obtain ⟨cur, fz, h1, r⟩ := h
  exact ⟨cur, fz, (hb.block g (Array.getElem?_eq_some_iff.1 h1).1).trans h1, r⟩
theorem BRow.lt (h : BRow w T g c xs) : g < w.heap.size := by
  obtain ⟨cur, fz, h1, r⟩ := h; exact (Array.getElem?_eq_some_iff.1 h1).1
end
section
variable {P : Program} (w : World)
theorem bytesWorld_brow (e : TypeId) (l : List UInt8) (hm : l.length ≤ maxLen) : BRow (Lib.bytesWorld w e (str l)) e w.heap.size (grownCap w l.length 0 e) (l.map u8v) := by
  have hge := grownCap_ge w l.length 0 e
  refine ⟨_, _, Lib.bytesWorld_at_new w e (str l), Nat.le_refl _, ?_, ?_, by rw [List.length_map]; exact hge, grownCap_le_maxLen w l.length 0 e hm⟩
  · rw [Lib.bytesCells, Array.size_append, Array.size_map, Array.size_replicate]
    show l.length + (grownCap w l.length 0 e - l.length) = _
    omega
  · rw [Lib.bytesCells, Array.toList_append, List.take_append_of_le_length (by simp [str])]
    simp [str, u8v, List.take_of_length_le]
/-- A text turned into bytes. -/
theorem wpList_bytesOfB {ops : Array Oper} {rest : List Oper} {o : Oper} {a : Act} {Q : Exit → Act → World → Prop} (hgd : Region.wanted o (yielded ops a.tmps) = true) (src dst : TypeId) (x : Operand) (ho : o.op = .convert src dst x) (e : TypeId) {u : TypeDesc}
    (hs : P.underlying src = some u) (hd : P.underlying dst = some (.slice e)) (he : P.underlying e = some (.int .u8)) (l : List UInt8) (hm : l.length ≤ maxLen) (hx : a.eval x = .string (str l))
    (h : ∀ c' w', l.length ≤ c' → BRow w' e w.heap.size c' (l.map u8v) → Below w.heap.size w w' → w'.heap.size = w.heap.size + 1 → wpList P ops Q rest (a.put o.dst (.slice (some ⟨w.heap.size, 0, none⟩) l.length c')) w') : wpList P ops Q (o :: rest) a w := by
  refine wpList_step fun K hK => ?_
  rw [if_pos hgd]
  have hrun := Lib.run_convert_string_bytes (P := P) w src dst e (str l) hs hd he
  unfold Oper.wp execOp
  simp only [ho, Sem.run_bind, Sem.run_pure, Result.andThen_ok, hx, hrun]
  exact hK _ _ (h _ _ (grownCap_ge w l.length 0 e) (bytesWorld_brow w e l hm) (bytesWorld_below w e (str l)) (Lib.bytesWorld_size w e (str l)))
theorem run_app1 (t ty e : TypeId) (i : TypeInfo) (z : Value) (bytes : Nat) (ht : P.underlying t = some (.slice e)) (hi : P.info? e = some i) (hz : i.zero = some z) (hsize : i.size = 1) (hby : i.bytes = bytes) (hzs : z.cells.size = 1)
    (g c : Nat) (xs : List Value) (hB : BRow w e g c xs) (a : Addr) (d : Nat) (v : Value) (hv : w.cell? a = some v) (h1 : v.oneCell' = true) (h63 : xs.length + 1 ≤ maxLen) (hbytes : (xs.length + 1) * bytes ≤ 140737488355328) :
    ∃ A' c' w', (Builtin.append_ #[t, t] ty #[.slice (some ⟨g, 0, none⟩) xs.length c, .slice (some a) 1 d]).run P w = .ok (.slice A' (xs.length + 1) c') w' ∧ Cells w' w'.heap.size A' (xs ++ [v]) ∧ xs.length + 1 ≤ c' ∧ Below g w w' ∧ c' ≤ maxLen := by
  have hadd : a.add 0 = a := by cases a with | mk b o s => cases s <;> rfl
  have hnews : ∀ j u, [v][j]? = some u → w.cell? (a.add j) = some u := fun j u hj => by
    rcases j with _ | j
    · rw [hadd, hv]; exact hj
    · simp at hj
  have hlt := hB.lt
  have hrow := hB.row
  obtain ⟨cur, fz, hh, hfz, hcs, htk, hle, hmx⟩ := hB
  by_cases hroom : xs.length + 1 ≤ c
  · have hf := run_firstCells_some (P := P) w i.size 1 a 1 d [v] (by rw [hsize]; rfl) hnews
    have hcell : (w.cell? ⟨g, xs.length, none⟩).isSome = true := by
      unfold World.cell?; rw [hh]
      show (if (none : Option Nat).isSome then none else cur[xs.length]?).isSome = true
      rw [if_neg (by simp), Array.getElem?_eq_getElem (by omega)]; rfl
    have hfr : w.frozen? ⟨g, xs.length, none⟩ = false := by
      unfold World.frozen?; rw [hh]
      obtain ⟨lo, hi⟩ := fz
      simp at hfz ⊢; omega
    have hst := run_storeCells_cells (P := P) g (xs.length * i.size) [v] 0 w (fun j hj => by rw [hsize]; simp at hj; subst hj; simpa using hcell) (fun j hj => by rw [hsize]; simp at hj; subst hj; simpa using hfr) (fun u hu => by rw [List.mem_singleton.1 hu]; exact h1)
    rw [Nat.add_zero, hsize, Nat.mul_one] at hst
    have hw : w.setCells g xs.length [v] = w.setCell ⟨g, xs.length, none⟩ v := rfl
    rw [hw] at hst
    have hcl : Cells (w.setCell ⟨g, xs.length, none⟩ v) (w.setCell ⟨g, xs.length, none⟩ v).heap.size (some ⟨g, 0, none⟩) (xs ++ [v]) := by
      refine Row.cells (base := g) fun _ => ⟨g, cur.setIfInBounds xs.length v, e, fz, rfl, Nat.le_refl _, ?_, .inr (by simpa using hfz), ?_⟩
      · simp [World.setCell, Array.getElem?_modify, hh]
      · rw [List.length_append, List.length_singleton, Array.toList_setIfInBounds, List.take_set, List.take_succ_eq_append_getElem (show xs.length < cur.toList.length by have := Array.length_toList (xs := cur); omega), htk]
        simp
    refine ⟨some ⟨g, 0, none⟩, c, w.setCell ⟨g, xs.length, none⟩ v, ?_, hcl, hroom, (Below.refl g w).setCell (p := ⟨g, xs.length, none⟩) (Nat.le_refl _) v, hmx⟩
    simp [Builtin.append_, run_underlying ht, sizeOf, typeInfo, hi, hsize, Builtin.lenOf, hroom, Addr.add_lit, hst]
    rw [hsize] at hf
    simp [hf, hst]
  · have holds : ∀ j u, xs[j]? = some u → w.cell? ((⟨g, 0, none⟩ : Addr).add j) = some u := fun j u hj => by
      have hlj := (List.getElem?_eq_some_iff.1 hj).1
      obtain ⟨b, off, e1, _, hc⟩ := hrow.cells (by omega)
      injection e1 with e1; injection e1 with e1 e2; subst e1; subst e2
      have := hc j u hj
      rw [Nat.zero_add] at this
      rw [Addr.add_lit, Nat.zero_add]; exact this
    have hr := run_append_grow (P := P) w t ty e i z ht hi hz ⟨g, 0, none⟩ xs.length c xs (by rw [hsize, Nat.mul_one]) holds a 1 d [v] (by rw [hsize]; rfl) hnews (by omega) (by unfold maxLen at h63; omega) (growslice_fits (by omega) (by rw [hby]; exact hbytes))
    have hcl : Cells (w.drew.alloc (.cells (xs.toArray ++ [v].toArray ++ Builtin.zeroCells z.cells (grownCap w (xs.length + 1) c e - (xs.length + 1))) e)) (w.drew.alloc (.cells (xs.toArray ++ [v].toArray ++ Builtin.zeroCells z.cells (grownCap w (xs.length + 1) c e - (xs.length + 1))) e)).heap.size (some ⟨w.heap.size, 0, none⟩) (xs ++ [v]) := by
      refine Row.cells (base := w.heap.size) fun _ => ⟨w.heap.size, _, e, (0, 0), rfl, Nat.le_refl _, heap_alloc_new w.drew _, .inl rfl, ?_⟩
      rw [Array.toList_append, Array.toList_append, List.take_append_of_le_length (by simp)]
      simp [List.take_of_length_le]
    exact ⟨_, _, _, hr, hcl, grownCap_ge w _ _ _, (next (nextN (Mem.start w) 1) (nextA (Mem.start w.drew) _)).mono (Nat.le_of_lt hlt), grownCap_le_maxLen w _ _ _ h63⟩
/-- append of one byte onto the bytes of a text. -/
theorem wpList_app1 {ops : Array Oper} {rest : List Oper} {o : Oper} {a : Act} {Q : Exit → Act → World → Prop} (hgd : o.guard = none) (s x : Operand) (t e : TypeId) (ho : o.op = .call { callee := .builtin .append, args := #[s, x], argTypes := #[t, t] })
    (i : TypeInfo) (z : Value) (bytes : Nat) (ht : P.underlying t = some (.slice e)) (hi : P.info? e = some i) (hz : i.zero = some z) (hsize : i.size = 1) (hby : i.bytes = bytes) (hzs : z.cells.size = 1)
    (g n c : Nat) (xs : List Value) (hs : a.eval s = .slice (some ⟨g, 0, none⟩) n c) (hn : xs.length = n) (hB : BRow w e g c xs) (A : Addr) (d : Nat) (v : Value) (hx : a.eval x = .slice (some A) 1 d) (hv : w.cell? A = some v) (h1 : v.oneCell' = true) (h63 : n + 1 ≤ maxLen) (hbytes : (n + 1) * bytes ≤ 140737488355328)
    (h : ∀ A' c' w', Cells w' w'.heap.size A' (xs ++ [v]) → n + 1 ≤ c' → Below g w w' → wpList P ops Q rest (a.put o.dst (.slice A' (n + 1) c')) w') : wpList P ops Q (o :: rest) a w := by
  subst hn
  obtain ⟨A', c', w', hrun, h2, h3, h4, _⟩ := run_app1 (P := P) w t o.type e i z bytes ht hi hz hsize hby hzs g c xs hB A d v hv h1 h63 hbytes
  refine wpList_plain hgd fun K hK => ?_
  unfold Oper.wp execOp
  simp only [ho, resolve, invoke, builtin, Sem.run_bind, Sem.run_pure, Result.andThen_ok, List.map_toArray, List.map_cons, List.map_nil, hs, hx, hrun]
  exact hK _ _ (h A' c' w' h2 h3 h4)
/-- append of one byte onto the bytes of a text; its room. -/
theorem wpList_app1m {ops : Array Oper} {rest : List Oper} {o : Oper} {a : Act} {Q : Exit → Act → World → Prop} (hgd : o.guard = none) (s x : Operand) (t e : TypeId) (ho : o.op = .call { callee := .builtin .append, args := #[s, x], argTypes := #[t, t] })
    (i : TypeInfo) (z : Value) (bytes : Nat) (ht : P.underlying t = some (.slice e)) (hi : P.info? e = some i) (hz : i.zero = some z) (hsize : i.size = 1) (hby : i.bytes = bytes) (hzs : z.cells.size = 1)
    (g n c : Nat) (xs : List Value) (hs : a.eval s = .slice (some ⟨g, 0, none⟩) n c) (hn : xs.length = n) (hB : BRow w e g c xs) (A : Addr) (d : Nat) (v : Value) (hx : a.eval x = .slice (some A) 1 d) (hv : w.cell? A = some v) (h1 : v.oneCell' = true) (h63 : n + 1 ≤ maxLen) (hbytes : (n + 1) * bytes ≤ 140737488355328)
    (h : ∀ A' c' w', Cells w' w'.heap.size A' (xs ++ [v]) → n + 1 ≤ c' → c' ≤ maxLen → Below g w w' → wpList P ops Q rest (a.put o.dst (.slice A' (n + 1) c')) w') : wpList P ops Q (o :: rest) a w := by
  subst hn
  obtain ⟨A', c', w', hrun, h2, h3, h4, h5⟩ := run_app1 (P := P) w t o.type e i z bytes ht hi hz hsize hby hzs g c xs hB A d v hv h1 h63 hbytes
  refine wpList_plain hgd fun K hK => ?_
  unfold Oper.wp execOp
  simp only [ho, resolve, invoke, builtin, Sem.run_bind, Sem.run_pure, Result.andThen_ok, List.map_toArray, List.map_cons, List.map_nil, hs, hx, hrun]
  exact hK _ _ (h A' c' w' h2 h3 h5 h4)
end
end Go.Proofs.YtebdmfmadbikaaaDoor.Mem
