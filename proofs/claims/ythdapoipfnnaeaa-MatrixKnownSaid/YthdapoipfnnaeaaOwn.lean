/- Rows of the call's own: append to them from any slice, read them, write to them; texts and bytes turned into one another. Laws for the walk. -/
import Derived.Test.YthdapoipfnnaeaaMem
import Derived.Maps.AppendAt
import Derived.Laws.BytesArg
import Derived.Lib.ConvBytes
import Derived.RegionTactic
import Derived.Laws.Strings
namespace Go.Proofs.Ythdapoipfnnaeaa.Mem
open Go.RowKit Go.Lib

/-- The slice that begins at A has the values xs, in a row of the call's own (a block from base on), with room for c. -/
def Own (w : World) (base : Nat) (T : TypeId) (A : Option Addr) (c : Nat) (xs : List Value) : Prop := w.ownsRow base T 1 (.slice A xs.length c) xs.length xs

section
variable {w w' : World} {base : Nat} {T : TypeId} {A : Option Addr} {c : Nat} {xs : List Value}
theorem Own.nil : Own w base T none 0 [] := World.ownsRow_nil w base T 1
theorem Own.form (h : Own w base T A c xs) : (A = none ∧ c = 0 ∧ xs = []) ∨ ∃ g, A = some ⟨g, 0, none⟩ ∧ base ≤ g ∧ g < w.heap.size ∧ xs.length ≤ c ∧ c ≤ maxLen := by
  rcases h.2 with ⟨hv, hn⟩ | ⟨g, cap, cur, hv, hb, hg, hn, hm, _⟩
  · injection hv with h1 _ h3
    exact .inl ⟨h1, h3, List.eq_nil_of_length_eq_zero hn⟩
  · injection hv with h1 _ h3
    subst h3
    exact .inr ⟨g, h1, hb, (Array.getElem?_eq_some_iff.1 hg).1, hn, hm⟩
theorem Own.cells (h : Own w base T A c xs) : Cells w w.heap.size A xs := fun hl => by
  rcases h.form with ⟨_, _, rfl⟩ | ⟨g, rfl, _, hg, _⟩
  · simp at hl
  · refine ⟨g, 0, rfl, hg, fun j v hv => ?_⟩
    have := World.ownsRow.cells (g := g) h rfl j v hv
    rwa [Addr.add_lit] at this
theorem Own.le (h : Own w base T A c xs) : xs.length ≤ c := by
  rcases h.form with ⟨_, rfl, rfl⟩ | ⟨g, _, _, _, h, _⟩
  · exact Nat.le_refl _
  · exact h
theorem Own.max (h : Own w base T A c xs) : c ≤ maxLen := by
  rcases h.form with ⟨_, rfl, _⟩ | ⟨g, _, _, _, _, h⟩
  · exact Nat.zero_le _
  · exact h
theorem Own.keep (h : Own w base T A c xs) (hb : Below w.heap.size w w') : Own w' base T A c xs :=
  World.ownsRow.kept (row := none) h ⟨hb.os, hb.tape, hb.output, hb.size, fun k hk _ => hb.block k hk⟩ (by cases hv : Value.ownBlock (.slice A xs.length c) <;> simp)
theorem Own.grown (h : Own w base T A c xs) {row : Option Nat} (hg : w.grownBy w' row) (hne : ∀ g, A = some ⟨g, 0, none⟩ → some g ≠ row) : Own w' base T A c xs := by
  refine World.ownsRow.kept h hg ?_
  rcases h.form with ⟨rfl, _⟩ | ⟨g, rfl, _⟩
  · exact .inl rfl
  · exact .inr (hne g rfl)
theorem Own.alloc (h : Own w base T A c xs) (o : Obj) : Own (w.alloc o) base T A c xs := World.ownsRow.alloc h o
theorem Own.drewN (h : Own w base T A c xs) (n : Nat) : Own (w.drewN n) base T A c xs := h
theorem Own.take (h : Own w base T A c xs) (k : Nat) : Own w base T A c (xs.take k) := by
  rcases h.2 with ⟨hv, hn⟩ | ⟨g, cap, cur, hv, hg, hh, hle, hm, hs, ht⟩
  · injection hv with h1 _ h3
    have hx : xs = [] := List.eq_nil_of_length_eq_zero hn
    subst hx; subst h1; subst h3
    rw [List.take_nil]; exact World.ownsRow_nil w base T 1
  · injection hv with h1 _ h3
    refine ⟨by simp, .inr ⟨g, cap, cur, by rw [h1, h3], hg, hh, ?_, hm, hs, ?_⟩⟩
    · rw [List.length_take]; omega
    · rw [Nat.mul_one] at ht ⊢
      rw [List.length_take]
      conv => rhs; rw [← ht]
      rw [List.take_take]
theorem Own.set_far (h : Own w base T A c xs) {p : Addr} {u : Value} (hp : ∀ g, A = some ⟨g, 0, none⟩ → p.block ≠ g) : Own (w.setCell p u) base T A c xs := by
  refine ⟨h.1, ?_⟩
  rcases h.2 with h2 | ⟨g, cap, cur, hv, hg, hh, r⟩
  · exact .inl h2
  · refine .inr ⟨g, cap, cur, hv, hg, ?_, r⟩
    injection hv with h1 _ _
    exact (Below.heap_setCell w p u g (fun e => hp g h1 e.symm)).trans hh
theorem Own.down {base' : Nat} (h : Own w base T A c xs) (hb : base' ≤ base) : Own w base' T A c xs := by
  refine ⟨h.1, ?_⟩
  rcases h.2 with h2 | ⟨g, cap, cur, hv, hg, r⟩
  · exact .inl h2
  · exact .inr ⟨g, cap, cur, hv, by omega, r⟩
/-- What a store asks of a cell of the row. -/
theorem Own.at_ (h : Own w base T A c xs) {k : Nat} (hk : k < xs.length) :
    ∃ g, A = some ⟨g, 0, none⟩ ∧ base ≤ g ∧ g < w.heap.size ∧ w.cell? ⟨g, k, none⟩ = some xs[k] ∧ w.frozen? ⟨g, k, none⟩ = false ∧ ∀ u : Value, Own (w.setCell ⟨g, k, none⟩ u) base T A c (xs.set k u) := by
  rcases h.2 with ⟨_, hn⟩ | ⟨g, cap, cur, hv, hb, hg, hn, hm, hcs, ht⟩
  · omega
  · injection hv with h1 _ h3
    subst h3
    have hlt := (Array.getElem?_eq_some_iff.1 hg).1
    have hcell : w.cell? ⟨g, k, none⟩ = some xs[k] := by
      have := World.ownsRow.cells (g := g) h (by rw [h1]; rfl) k xs[k] (List.getElem?_eq_getElem hk)
      rwa [Addr.add_lit, Nat.zero_add] at this
    refine ⟨g, h1, hb, hlt, hcell, by simp [World.frozen?, hg], fun u => ⟨by simp, .inr ⟨g, c, cur.setIfInBounds k u, by rw [h1], hb, ?_, by simpa using hn, hm, by simpa using hcs, ?_⟩⟩⟩
    · simp [World.setCell, Array.getElem?_modify, hg]
    · rw [List.length_set, Array.toList_setIfInBounds]
      have hl : xs.length * 1 = xs.length := Nat.mul_one _
      rw [hl] at ht ⊢
      rw [List.take_set, ht]
end
theorem Own.bytes {w : World} {base : Nat} {T : TypeId} {A : Option Addr} {c : Nat} {l : List UInt8} (h : Own w base T A c (l.map u8v)) : Bytes w w.heap.size A l := Own.cells h
theorem own_set {w : World} {base g c k : Nat} {T : TypeId} {l : List UInt8} (h : Own w base T (some ⟨g, 0, none⟩) c (l.map u8v)) (hk : k < l.length) (v : Int) (x : UInt8) (hv : v = (x.toNat : Int)) :
    Own (w.setCell ⟨g, k, none⟩ (.int .u8 v)) base T (some ⟨g, 0, none⟩) c ((l.set k x).map u8v) := by
  subst hv
  obtain ⟨g', hq, _, _, _, _, hu⟩ := h.at_ (k := k) (by simpa using hk)
  injection hq with hq; injection hq with hq; subst hq
  rw [List.map_set]; exact hu (u8v x)
theorem own_far {w : World} {base g c : Nat} {T : TypeId} {xs : List Value} (h : Own w base T (some ⟨g, 0, none⟩) c xs) {p : Addr} (hp : p.block ≠ g) (u : Value) : Own (w.setCell p u) base T (some ⟨g, 0, none⟩) c xs :=
  h.set_far fun g' hq => by injection hq with hq; injection hq with hq; subst hq; exact hp
theorem own_made (w : World) (cs : Array Value) (T : TypeId) (hm : cs.size ≤ maxLen) {base : Nat} (hb : base ≤ w.heap.size) : Own (w.alloc (.cells cs T)) base T (some ⟨w.heap.size, 0, none⟩) cs.size cs.toList :=
  ⟨by simp, .inr ⟨w.heap.size, cs.size, cs, by simp, hb, new_heap w _, by simp, hm, by simp, by simp [List.take_of_length_le]⟩⟩
theorem u8v_one {l : List UInt8} : ∀ u ∈ l.map u8v, u.oneCell' = true := by
  intro u hu
  obtain ⟨_, _, rfl⟩ := List.mem_map.1 hu
  rfl

section
variable {P : Program} (w : World)
/-- append, whatever the source: nil, empty or not. -/
theorem run_app (base : Nat) (t ty e : TypeId) (i : TypeInfo) (z : Value) (bytes : Nat) (ht : P.underlying t = some (.slice e)) (hi : P.info? e = some i) (hz : i.zero = some z)
    (hsize : i.size = 1) (hby : i.bytes = bytes) (hzs : z.cells.size = 1)
    (A : Option Addr) (c : Nat) (xs : List Value) (hown : Own w base e A c xs) (B : Nat) (S : Option Addr) (d : Nat) (news : List Value) (hn : Cells w B S news) (h1 : ∀ u ∈ news, u.oneCell' = true)
    (h63 : xs.length + news.length ≤ maxLen) (hbytes : (xs.length + news.length) * bytes ≤ 140737488355328) (hbase : base ≤ w.heap.size) :
    ∃ A' c' w', (Builtin.append_ #[t, t] ty #[.slice A xs.length c, .slice S news.length d]).run P w = .ok (.slice A' (xs.length + news.length) c') w' ∧ Own w' base e A' c' (xs ++ news) ∧ w.grownBy w' (Value.ownBlock (.slice A xs.length c)) ∧
      (A' = A ∨ A' = some ⟨w.heap.size, 0, none⟩) := by
  by_cases hl : 0 < news.length
  · obtain ⟨b, off, rfl, _, hc⟩ := hn hl
    obtain ⟨v', w', hrun, h2, h3, _, h5⟩ := run_append_own_at (P := P) w base t ty e i z 1 bytes ht hi hz hsize hby hzs (by omega) _ xs.length xs hown ⟨b, off, none⟩ news.length d news (by simp) (fun j u hu => by rw [Addr.add_lit]; exact hc j u hu) h1 h63 hbytes hbase
    rcases h2.2 with ⟨rfl, hz⟩ | ⟨g, cap, cur, rfl, r⟩
    · omega
    · refine ⟨_, _, w', hrun, by unfold Own; rw [List.length_append]; exact h2, h3, ?_⟩
      rcases h5 with h5 | h5
      · rcases hown.form with ⟨rfl, _, _⟩ | ⟨g', rfl, _⟩
        · simp [Value.ownBlock] at h5
        · left; simp [Value.ownBlock] at h5; rw [h5]
      · right; simp [Value.ownBlock] at h5; rw [h5]
  · have hz : news = [] := List.eq_nil_of_length_eq_zero (by omega)
    subst hz
    refine ⟨A, c, w, ?_, by simpa using hown, World.grownBy.refl w _, .inl rfl⟩
    rcases hown.form with ⟨rfl, rfl, rfl⟩ | ⟨g, rfl, _, _, hle, _⟩
    · cases S <;> simp [Builtin.append_, run_underlying ht, sizeOf, typeInfo, hi, Builtin.lenOf, Builtin.firstCells, loadCells, loadCellsFrom]
    · cases S <;> simp [Builtin.append_, run_underlying ht, sizeOf, typeInfo, hi, Builtin.lenOf, Builtin.firstCells, loadCells, loadCellsFrom, hle, storeCells]
theorem ownBlock_eq (A : Option Addr) (n c : Nat) : Value.ownBlock (.slice A n c) = A.map (·.block) := by cases A <;> rfl
theorem below_of_app {w w' : World} {base : Nat} {e : TypeId} {A : Option Addr} {c : Nat} {xs : List Value} (h : Own w base e A c xs) (hg : w.grownBy w' (A.map (·.block))) (hb : base ≤ w.heap.size) : Below base w w' :=
  (Below.refl base w).grown hg hb fun k hk => by
    rcases h.form with ⟨rfl, _⟩ | ⟨g, rfl, hbg, _⟩
    · cases hk
    · simp at hk; omega
theorem wp_app {o : Oper} {a : Act} {K : Act → World → Prop} {Q : Exit → Act → World → Prop} (s x : Operand) (t : TypeId)
    (ho : o.op = .call { callee := .builtin .append, args := #[s, x], argTypes := #[t, t] })
    (base : Nat) (e : TypeId) (i : TypeInfo) (z : Value) (bytes : Nat) (ht : P.underlying t = some (.slice e)) (hi : P.info? e = some i) (hz : i.zero = some z)
    (hsize : i.size = 1) (hby : i.bytes = bytes) (hzs : z.cells.size = 1)
    (A : Option Addr) (c n : Nat) (xs : List Value) (hs : a.eval s = .slice A n c) (hnl : n = xs.length) (hown : Own w base e A c xs) (B : Nat) (S : Option Addr) (d m : Nat) (news : List Value) (hx : a.eval x = .slice S m d) (hm : m = news.length) (hn : Cells w B S news) (h1 : ∀ u ∈ news, u.oneCell' = true)
    (h63 : xs.length + news.length ≤ maxLen) (hbytes : (xs.length + news.length) * bytes ≤ 140737488355328) (hbase : base ≤ w.heap.size)
    (h : ∀ A' c' w', Own w' base e A' c' (xs ++ news) → Below base w w' → w.grownBy w' (A.map (·.block)) → (A' = A ∨ A' = some ⟨w.heap.size, 0, none⟩) → K (a.put o.dst (.slice A' (n + m) c')) w') : o.wp P a w K Q := by
  subst hnl; subst hm
  obtain ⟨A', c', w', hrun, h2, h3, h4⟩ := run_app (P := P) w base t o.type e i z bytes ht hi hz hsize hby hzs A c xs hown B S d news hn h1 h63 hbytes hbase
  rw [ownBlock_eq] at h3
  unfold Oper.wp execOp
  simp only [ho, resolve, invoke, builtin, Sem.run_bind, Sem.run_pure, Result.andThen_ok, List.map_toArray, List.map_cons, List.map_nil, hs, hx, hrun]
  exact h A' c' w' h2 (below_of_app hown h3 hbase) h3 h4
/-- The walk's law for append; N: the new length, spelled as it shall stand. -/
theorem wpList_app {ops : Array Oper} {rest : List Oper} {o : Oper} {a : Act} {Q : Exit → Act → World → Prop} (hgd : o.guard = none) (s x : Operand) (t : TypeId)
    (ho : o.op = .call { callee := .builtin .append, args := #[s, x], argTypes := #[t, t] })
    (base : Nat) (e : TypeId) (i : TypeInfo) (z : Value) (bytes : Nat) (ht : P.underlying t = some (.slice e)) (hi : P.info? e = some i) (hz : i.zero = some z)
    (hsize : i.size = 1) (hby : i.bytes = bytes) (hzs : z.cells.size = 1)
    (A : Option Addr) (c n : Nat) (xs : List Value) (hs : a.eval s = .slice A n c) (hnl : n = xs.length) (hown : Own w base e A c xs) (B : Nat) (S : Option Addr) (d m : Nat) (news : List Value) (hx : a.eval x = .slice S m d) (hm : m = news.length) (hn : Cells w B S news) (h1 : ∀ u ∈ news, u.oneCell' = true)
    (h63 : xs.length + news.length ≤ maxLen) (hbytes : (xs.length + news.length) * bytes ≤ 140737488355328) (hbase : base ≤ w.heap.size) (N : Nat) (hN : N = n + m)
    (h : ∀ A' c' w', Own w' base e A' c' (xs ++ news) → Below base w w' → w.grownBy w' (A.map (·.block)) → (A' = A ∨ A' = some ⟨w.heap.size, 0, none⟩) → wpList P ops Q rest (a.put o.dst (.slice A' N c')) w') : wpList P ops Q (o :: rest) a w := by
  subst hN
  exact wpList_plain hgd fun _ hK => wp_app w s x t ho base e i z bytes ht hi hz hsize hby hzs A c n xs hs hnl hown B S d m news hx hm hn h1 h63 hbytes hbase fun A' c' w' h2 h3 h4 h5 => hK _ _ (h A' c' w' h2 h3 h4 h5)

/-- Bytes as a text. -/
def str (l : List UInt8) : ByteArray := ⟨l.toArray⟩
theorem str_list (l : List UInt8) : (str l).data.toList = l := rfl
theorem str_size (l : List UInt8) : (str l).size = l.length := rfl
theorem str_toList (l : List UInt8) : (str l).toList = l := ByteArray.toList_eq _
theorem str_inj {l r : List UInt8} : str l = str r ↔ l = r := ⟨fun h => by have := congrArg (fun s : ByteArray => s.data.toList) h; exact this, congrArg _⟩
theorem str_eq (s : ByteArray) : str s.data.toList = s := rfl
theorem run_str (src e : TypeId) (hs : P.underlying src = some (.slice e)) (he : P.underlying e = some (.int .u8)) {B : Nat} {A : Option Addr} {l : List UInt8} (h : Bytes w B A l) (c : Nat) (dst : TypeId) (hd : P.underlying dst = some .string) :
    (convert src dst (.slice A l.length c)).run P w = .ok (.string (str l)) w := by
  by_cases hl : 0 < l.length
  · obtain ⟨b, off, rfl, _, hc⟩ := h (by simpa using hl)
    rw [run_convert_bytes_arg w src e hs he b off l.length c (l.map fun c => (c.toNat : Int)) (by simp) (fun i hi => by
      rw [hc i (u8v l[i]) (by simp [hi])]; simp [u8v, hi]) dst hd]
    have : strOfNums (l.map fun c => (c.toNat : Int)) = str l := by
      have h2 : (strOfNums (l.map fun c => (c.toNat : Int))).data.toList = (str l).data.toList := by
        rw [strOfNums_data, str_list, List.map_map]
        conv => rhs; rw [← List.map_id l]
        apply List.map_congr_left
        intro c _; simp
      rw [← str_eq (strOfNums _), h2]; rfl
    rw [this]
  · have hz : l = [] := List.eq_nil_of_length_eq_zero (by omega)
    subst hz
    cases A with
    | none => exact run_convert_bytes_nil w src e hs he 0 c dst hd
    | some a =>
      rw [run_convert_bytes_string w src dst e _ _ c hs he hd]
      simp [Conv.bytesToString, loadCells, loadCellsFrom]
      rfl
end

/-- The slice that begins at A has the values xs, in a block from base on that may be written there. -/
def Row (w : World) (base : Nat) (A : Option Addr) (xs : List Value) : Prop :=
  0 < xs.length → ∃ g cur T fz, A = some ⟨g, 0, none⟩ ∧ base ≤ g ∧ w.heap[g]? = some (.cells cur T fz) ∧ (fz = (0, 0) ∨ cur.size ≤ fz.1) ∧ cur.toList.take xs.length = xs
section
variable {w w' : World} {base : Nat} {T : TypeId} {A : Option Addr} {c : Nat} {xs : List Value}
theorem Own.row (h : Own w base T A c xs) : Row w base A xs := fun hl => by
  rcases h.2 with ⟨_, hn⟩ | ⟨g, cap, cur, hv, hb, hg, hn, hm, hcs, ht⟩
  · omega
  · injection hv with h1 _ h3
    exact ⟨g, cur, T, (0, 0), h1, hb, hg, .inl rfl, by rwa [Nat.mul_one] at ht⟩
theorem Row.down {base' : Nat} (h : Row w base A xs) (hb : base' ≤ base) : Row w base' A xs := fun hl => by
  obtain ⟨g, cur, T, fz, e, hg, r⟩ := h hl
  exact ⟨g, cur, T, fz, e, by omega, r⟩
theorem Row.keep (h : Row w base A xs) (hb : Below w.heap.size w w') : Row w' base A xs := fun hl => by
  obtain ⟨g, cur, T, fz, e, hg, hh, r⟩ := h hl
  exact ⟨g, cur, T, fz, e, hg, (hb.block g (Array.getElem?_eq_some_iff.1 hh).1).trans hh, r⟩
theorem Row.cells (h : Row w base A xs) : Cells w w.heap.size A xs := fun hl => by
  obtain ⟨g, cur, T, fz, e, hg, hh, _, ht⟩ := h hl
  refine ⟨g, 0, e, (Array.getElem?_eq_some_iff.1 hh).1, fun j v hv => ?_⟩
  have hj : j < xs.length := (List.getElem?_eq_some_iff.1 hv).1
  rw [Nat.zero_add]
  unfold World.cell?
  rw [hh]
  show (if (none : Option Nat).isSome then none else cur[j]?) = some v
  rw [if_neg (by simp), ← Array.getElem?_toList, ← hv]
  conv => rhs; rw [← ht]
  rw [List.getElem?_take, if_pos hj]
theorem Row.at_ (h : Row w base A xs) {k : Nat} (hk : k < xs.length) :
    ∃ g, A = some ⟨g, 0, none⟩ ∧ base ≤ g ∧ g < w.heap.size ∧ w.cell? ⟨g, k, none⟩ = some xs[k] ∧ w.frozen? ⟨g, k, none⟩ = false ∧ ∀ u : Value, Row (w.setCell ⟨g, k, none⟩ u) base A (xs.set k u) := by
  have hc := h.cells
  obtain ⟨g, cur, T, fz, e, hg, hh, hf, ht⟩ := h (by omega)
  have hcur : k < cur.size := by
    have := congrArg List.length ht
    simp at this
    omega
  obtain ⟨b, off, e2, _, hcell⟩ := hc (by omega)
  have : some (⟨g, 0, none⟩ : Addr) = some ⟨b, off, none⟩ := e.symm.trans e2
  injection this with this
  injection this with hb ho
  subst hb; subst ho
  refine ⟨g, e, hg, (Array.getElem?_eq_some_iff.1 hh).1, by simpa using hcell k xs[k] (List.getElem?_eq_getElem hk), ?_, fun u hl => ?_⟩
  · unfold World.frozen?
    rw [hh]
    obtain ⟨lo, hi⟩ := fz
    rcases hf with hf | hf
    · injection hf with h1 h2; subst h1; subst h2; simp
    · simp at hf ⊢; omega
  · refine ⟨g, cur.setIfInBounds k u, T, fz, e, hg, ?_, ?_, ?_⟩
    · simp [World.setCell, Array.getElem?_modify, hh]
    · simpa using hf
    · rw [List.length_set, Array.toList_setIfInBounds, List.take_set, ht]
theorem Row.set_far (h : Row w base A xs) {p : Addr} {u : Value} (hp : ∀ g, A = some ⟨g, 0, none⟩ → p.block ≠ g) : Row (w.setCell p u) base A xs := fun hl => by
  obtain ⟨g, cur, T, fz, e, hg, hh, r⟩ := h hl
  exact ⟨g, cur, T, fz, e, hg, (Below.heap_setCell w p u g (fun e2 => hp g e e2.symm)).trans hh, r⟩
end

section
variable {P : Program} (w : World)
theorem bytesWorld_below (e : TypeId) (s : ByteArray) : Below w.heap.size w (bytesWorld w e s) := by
  refine ⟨?_, ?_, ?_, by rw [bytesWorld_size]; omega, fun k hk => bytesWorld_at_old w e s k hk⟩ <;>
    (unfold bytesWorld World.freeze; rw [if_neg (by decide)]; rfl)
theorem bytesWorld_row (e : TypeId) (l : List UInt8) : Row (bytesWorld w e (str l)) w.heap.size (some ⟨w.heap.size, 0, none⟩) (l.map u8v) := fun hl =>
  ⟨w.heap.size, _, e, _, rfl, Nat.le_refl _, bytesWorld_at_new w e (str l), .inr (Nat.le_refl _), by
    rw [bytesCells, Array.toList_append, List.take_append_of_le_length (by simp [str])]
    simp [str, u8v, List.take_of_length_le]⟩
theorem wp_bytesOf {o : Oper} {a : Act} {K : Act → World → Prop} {Q : Exit → Act → World → Prop} (src dst : TypeId) (x : Operand) (ho : o.op = .convert src dst x) (e : TypeId) {u : TypeDesc}
    (hs : P.underlying src = some u) (hd : P.underlying dst = some (.slice e)) (he : P.underlying e = some (.int .u8)) (l : List UInt8) (hx : a.eval x = .string (str l))
    (h : ∀ c' w', l.length ≤ c' → Row w' w.heap.size (some ⟨w.heap.size, 0, none⟩) (l.map u8v) → Below w.heap.size w w' → w'.heap.size = w.heap.size + 1 → K (a.put o.dst (.slice (some ⟨w.heap.size, 0, none⟩) l.length c')) w') : o.wp P a w K Q := by
  have hrun := run_convert_string_bytes (P := P) w src dst e (str l) hs hd he
  unfold Oper.wp execOp
  simp only [ho, Sem.run_bind, Sem.run_pure, Result.andThen_ok, hx, hrun]
  exact h _ _ (grownCap_ge w l.length 0 e) (bytesWorld_row w e l) (bytesWorld_below w e (str l)) (bytesWorld_size w e (str l))
/-- The walk's law for a text turned into bytes. -/
theorem wpList_bytesOf {ops : Array Oper} {rest : List Oper} {o : Oper} {a : Act} {Q : Exit → Act → World → Prop} (hgd : Region.wanted o (yielded ops a.tmps) = true) (src dst : TypeId) (x : Operand) (ho : o.op = .convert src dst x) (e : TypeId) {u : TypeDesc}
    (hs : P.underlying src = some u) (hd : P.underlying dst = some (.slice e)) (he : P.underlying e = some (.int .u8)) (l : List UInt8) (hx : a.eval x = .string (str l))
    (h : ∀ c' w', l.length ≤ c' → Row w' w.heap.size (some ⟨w.heap.size, 0, none⟩) (l.map u8v) → Below w.heap.size w w' → w'.heap.size = w.heap.size + 1 → wpList P ops Q rest (a.put o.dst (.slice (some ⟨w.heap.size, 0, none⟩) l.length c')) w') : wpList P ops Q (o :: rest) a w := by
  refine wpList_step fun K hK => ?_
  rw [if_pos hgd]
  exact wp_bytesOf w src dst x ho e hs hd he l hx fun c' w' h1 h2 h3 h4 => hK _ _ (h c' w' h1 h2 h3 h4)
end
end Go.Proofs.Ythdapoipfnnaeaa.Mem
