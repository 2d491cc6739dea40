/- append at elements of K cells: the source nil, empty or not. -/
import Derived.Test.YtebdmfmadbikaaaDoorFr
namespace Go.Proofs.YtebdmfmadbikaaaDoor.Mem
open Go.RowKit Go.Lib
set_option linter.unusedVariables false

/-- The slice that begins at A has n elements of K cells, in a row of the call's own. -/
def OwnK (w : World) (base : Nat) (T : TypeId) (K : Nat) (A : Option Addr) (n c : Nat) (xs : List Value) : Prop := w.ownsRow base T K (.slice A n c) n xs
section
variable {w w' : World} {base K n c : Nat} {T : TypeId} {A : Option Addr} {xs : List Value}
theorem OwnK.nil : OwnK w base T K none 0 0 [] := World.ownsRow_nil w base T K
theorem OwnK.form (h : OwnK w base T K A n c xs) : (A = none ∧ c = 0 ∧ n = 0 ∧ xs = []) ∨ ∃ g, A = some ⟨g, 0, none⟩ ∧ base ≤ g ∧ g < w.heap.size ∧ n ≤ c ∧ c ≤ maxLen := by
  have hl := h.1
  rcases h.2 with ⟨hv, hn⟩ | ⟨g, cap, cur, hv, hb, hg, hn, hm, _⟩
  · injection hv with h1 _ h3
    subst hn
    exact .inl ⟨h1, h3, rfl, List.eq_nil_of_length_eq_zero (by simpa using hl)⟩
  · injection hv with h1 _ h3
    subst h3
    exact .inr ⟨g, h1, hb, (Array.getElem?_eq_some_iff.1 hg).1, hn, hm⟩
theorem OwnK.fr {S : Nat → Prop} (h : OwnK w base T K A n c xs) (hf : Fr S w w') (hA : ∀ g, A = some ⟨g, 0, none⟩ → ¬ S g) : OwnK w' base T K A n c xs := by
  refine ⟨h.1, ?_⟩
  rcases h.2 with h2 | ⟨g, cap, cur, hv, hg, hh, r⟩
  · exact .inl h2
  · refine .inr ⟨g, cap, cur, hv, hg, ?_, r⟩
    injection hv with h1 _ _
    exact (hf.block g (Array.getElem?_eq_some_iff.1 hh).1 (hA g h1)).trans hh
theorem OwnK.keep (h : OwnK w base T K A n c xs) (hb : Below w.heap.size w w') : OwnK w' base T K A n c xs := h.fr (Fr.quiet (S := fun _ => False) hb) fun _ _ h => h
theorem OwnK.down {base' : Nat} (h : OwnK w base T K A n c xs) (hb : base' ≤ base) : OwnK w base' T K A n c xs := by
  refine ⟨h.1, ?_⟩
  rcases h.2 with h2 | ⟨g, cap, cur, hv, hg, r⟩
  · exact .inl h2
  · exact .inr ⟨g, cap, cur, hv, by omega, r⟩
/-- The cells of the row, wherever it lies. -/
theorem OwnK.cells (h : OwnK w base T K A n c xs) : Cells w w.heap.size A xs := fun hl => by
  rcases h.2 with ⟨hv, hn⟩ | ⟨g, cap, cur, hv, hb, hg, hn, hm, hcs, ht⟩
  · have := h.1; rw [hn, Nat.zero_mul] at this; omega
  · injection hv with h1 _ h3
    refine ⟨g, 0, h1, (Array.getElem?_eq_some_iff.1 hg).1, fun j v hv => ?_⟩
    unfold World.cell?
    rw [hg, Nat.zero_add]
    show cur[j]? = some v
    rw [← Array.getElem?_toList]
    rw [← ht] at hv
    rw [List.getElem?_take] at hv
    split at hv
    · exact hv
    · cases hv
theorem OwnK.le (h : OwnK w base T K A n c xs) : n ≤ c := by
  rcases h.form with ⟨_, rfl, rfl, _⟩ | ⟨g, _, _, _, h, _⟩
  · exact Nat.le_refl _
  · exact h
end
section
variable {P : Program} (w : World)
theorem run_appK (base : Nat) (t ty e : TypeId) (i : TypeInfo) (z : Value) (K bytes : Nat) (ht : P.underlying t = some (.slice e)) (hi : P.info? e = some i) (hz : i.zero = some z)
    (hsize : i.size = K) (hby : i.bytes = bytes) (hzs : z.cells.size = K) (hK : 0 < K)
    (A : Option Addr) (c n : Nat) (xs : List Value) (hown : OwnK w base e K A n c xs) (B : Nat) (S : Option Addr) (d m : Nat) (news : List Value) (hn : Cells w B S news) (hl : news.length = m * K) (h1 : ∀ u ∈ news, u.oneCell' = true)
    (h63 : n + m ≤ maxLen) (hbytes : (n + m) * bytes ≤ 140737488355328) (hbase : base ≤ w.heap.size) :
    ∃ A' c' w', (Builtin.append_ #[t, t] ty #[.slice A n c, .slice S m d]).run P w = .ok (.slice A' (n + m) c') w' ∧ OwnK w' base e K A' (n + m) c' (xs ++ news) ∧ w.grownBy w' (A.map (·.block)) ∧
      (A' = A ∨ A' = some ⟨w.heap.size, 0, none⟩) := by
  by_cases hm : 0 < m
  · have hl0 : 0 < news.length := by rw [hl]; exact Nat.mul_pos hm hK
    obtain ⟨b, off, rfl, _, hc⟩ := hn hl0
    obtain ⟨v', w', hrun, h2, h3, _, h5⟩ := run_append_own_at (P := P) w base t ty e i z K bytes ht hi hz hsize hby hzs hK _ n xs hown ⟨b, off, none⟩ m d news hl (fun j u hu => by rw [Addr.add_lit]; exact hc j u hu) h1 h63 hbytes hbase
    rcases h2.2 with ⟨rfl, hz⟩ | ⟨g, cap, cur, rfl, r⟩
    · omega
    · rw [ownBlock_eq] at h3
      refine ⟨_, _, w', hrun, h2, h3, ?_⟩
      rcases h5 with h5 | h5
      · rcases hown.form with ⟨rfl, _, _⟩ | ⟨g', rfl, _⟩
        · simp [Value.ownBlock] at h5
        · left; simp [Value.ownBlock] at h5; rw [h5]
      · right; simp [Value.ownBlock] at h5; rw [h5]
  · obtain rfl : m = 0 := by omega
    obtain rfl : news = [] := List.eq_nil_of_length_eq_zero (by simpa using hl)
    refine ⟨A, c, w, ?_, by simpa using hown, World.grownBy.refl w _, .inl rfl⟩
    rcases hown.form with ⟨rfl, rfl, rfl, rfl⟩ | ⟨g, rfl, _, _, hle, _⟩
    · cases S <;> simp [Builtin.append_, run_underlying ht, sizeOf, typeInfo, hi, Builtin.lenOf, Builtin.firstCells, loadCells, loadCellsFrom]
    · cases S <;> simp [Builtin.append_, run_underlying ht, sizeOf, typeInfo, hi, Builtin.lenOf, Builtin.firstCells, loadCells, loadCellsFrom, hle, storeCells]
theorem belowK {w w' : World} {base n c K : Nat} {e : TypeId} {A : Option Addr} {xs : List Value} (h : OwnK w base e K A n c xs) (hg : w.grownBy w' (A.map (·.block))) (hb : base ≤ w.heap.size) : Below base w w' :=
  (Below.refl base w).grown hg hb fun k hk => by
    rcases h.form with ⟨rfl, _⟩ | ⟨g, rfl, hbg, _⟩
    · cases hk
    · simp at hk; omega
theorem wp_appK {o : Oper} {a : Act} {R : Act → World → Prop} {Q : Exit → Act → World → Prop} (s x : Operand) (t : TypeId)
    (ho : o.op = .call { callee := .builtin .append, args := #[s, x], argTypes := #[t, t] })
    (base : Nat) (e : TypeId) (i : TypeInfo) (z : Value) (K bytes : Nat) (ht : P.underlying t = some (.slice e)) (hi : P.info? e = some i) (hz : i.zero = some z)
    (hsize : i.size = K) (hby : i.bytes = bytes) (hzs : z.cells.size = K) (hK : 0 < K)
    (A : Option Addr) (c n : Nat) (xs : List Value) (hs : a.eval s = .slice A n c) (hown : OwnK w base e K A n c xs) (B : Nat) (S : Option Addr) (d m : Nat) (news : List Value) (hx : a.eval x = .slice S m d) (hn : Cells w B S news) (hl : news.length = m * K) (h1 : ∀ u ∈ news, u.oneCell' = true)
    (h63 : n + m ≤ maxLen) (hbytes : (n + m) * bytes ≤ 140737488355328) (hbase : base ≤ w.heap.size) (N : Nat) (hN : N = n + m)
    (h : ∀ A' c' w', OwnK w' base e K A' N c' (xs ++ news) → Below base w w' → w.grownBy w' (A.map (·.block)) → (A' = A ∨ A' = some ⟨w.heap.size, 0, none⟩) → R (a.put o.dst (.slice A' N c')) w') : o.wp P a w R Q := by
  subst hN
  obtain ⟨A', c', w', hrun, h2, h3, h4⟩ := run_appK (P := P) w base t o.type e i z K bytes ht hi hz hsize hby hzs hK A c n xs hown B S d m news hn hl h1 h63 hbytes hbase
  unfold Oper.wp execOp
  simp only [ho, resolve, invoke, builtin, Sem.run_bind, Sem.run_pure, Result.andThen_ok, List.map_toArray, List.map_cons, List.map_nil, hs, hx, hrun]
  exact h A' c' w' h2 (belowK hown h3 hbase) h3 h4
theorem wpList_appK {ops : Array Oper} {rest : List Oper} {o : Oper} {a : Act} {Q : Exit → Act → World → Prop} (hgd : o.guard = none) (s x : Operand) (t : TypeId)
    (ho : o.op = .call { callee := .builtin .append, args := #[s, x], argTypes := #[t, t] })
    (base : Nat) (e : TypeId) (i : TypeInfo) (z : Value) (K bytes : Nat) (ht : P.underlying t = some (.slice e)) (hi : P.info? e = some i) (hz : i.zero = some z)
    (hsize : i.size = K) (hby : i.bytes = bytes) (hzs : z.cells.size = K) (hK : 0 < K)
    (A : Option Addr) (c n : Nat) (xs : List Value) (hs : a.eval s = .slice A n c) (hown : OwnK w base e K A n c xs) (B : Nat) (S : Option Addr) (d m : Nat) (news : List Value) (hx : a.eval x = .slice S m d) (hn : Cells w B S news) (hl : news.length = m * K) (h1 : ∀ u ∈ news, u.oneCell' = true)
    (h63 : n + m ≤ maxLen) (hbytes : (n + m) * bytes ≤ 140737488355328) (hbase : base ≤ w.heap.size) (N : Nat) (hN : N = n + m)
    (h : ∀ A' c' w', OwnK w' base e K A' N c' (xs ++ news) → Below base w w' → w.grownBy w' (A.map (·.block)) → (A' = A ∨ A' = some ⟨w.heap.size, 0, none⟩) → wpList P ops Q rest (a.put o.dst (.slice A' N c')) w') : wpList P ops Q (o :: rest) a w :=
  wpList_plain hgd fun _ hK' => wp_appK w s x t ho base e i z K bytes ht hi hz hsize hby hzs hK A c n xs hs hown B S d m news hx hn hl h1 h63 hbytes hbase N hN fun A' c' w' h2 h3 h4 h5 => hK' _ _ (h A' c' w' h2 h3 h4 h5)
theorem step_appK {ops : Array Oper} {o : Oper} {a : Act} {R : Act → World → Prop} {Q : Exit → Act → World → Prop} {E : Prop} (hgd : o.guard = none) (s x : Operand) (t : TypeId)
    (ho : o.op = .call { callee := .builtin .append, args := #[s, x], argTypes := #[t, t] })
    (base : Nat) (e : TypeId) (i : TypeInfo) (z : Value) (K bytes : Nat) (ht : P.underlying t = some (.slice e)) (hi : P.info? e = some i) (hz : i.zero = some z)
    (hsize : i.size = K) (hby : i.bytes = bytes) (hzs : z.cells.size = K) (hK : 0 < K)
    (A : Option Addr) (c n : Nat) (xs : List Value) (hs : a.eval s = .slice A n c) (hown : OwnK w base e K A n c xs) (B : Nat) (S : Option Addr) (d m : Nat) (news : List Value) (hx : a.eval x = .slice S m d) (hn : Cells w B S news) (hl : news.length = m * K) (h1 : ∀ u ∈ news, u.oneCell' = true)
    (h63 : n + m ≤ maxLen) (hbytes : (n + m) * bytes ≤ 140737488355328) (hbase : base ≤ w.heap.size) (N : Nat) (hN : N = n + m)
    (h : ∀ A' c' w', OwnK w' base e K A' N c' (xs ++ news) → Below base w w' → w.grownBy w' (A.map (·.block)) → (A' = A ∨ A' = some ⟨w.heap.size, 0, none⟩) → R (a.put o.dst (.slice A' N c')) w') :
    if Region.wanted o (yielded ops a.tmps) = true then Oper.wp P o a w R Q else E := by
  rw [if_pos (by simp [Region.wanted, hgd])]
  exact wp_appK w s x t ho base e i z K bytes ht hi hz hsize hby hzs hK A c n xs hs hown B S d m news hx hn hl h1 h63 hbytes hbase N hN h
end
end Go.Proofs.YtebdmfmadbikaaaDoor.Mem
