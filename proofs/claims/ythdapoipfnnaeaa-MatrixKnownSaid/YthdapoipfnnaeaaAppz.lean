/- append of so many noughts ('append(s, make([]T, n)...)') onto a row of the call's own. -/
import Derived.Test.YthdapoipfnnaeaaOwn
import Derived.Lib.AppendZeros
import Derived.Lib.AppendZerosOnto
namespace Go.Proofs.Ythdapoipfnnaeaa.Mem
open Go.RowKit Go.Lib

theorem zeroCells_one (z : Value) (n : Nat) : (Builtin.zeroCells #[z] n).toList = List.replicate n z := by
  apply List.ext_getElem
  · simp [Builtin.zeroCells]
  · intro i h1 h2
    simp [Builtin.zeroCells, Nat.mod_one]
section
variable {P : Program} (w : World)
theorem run_appz (base : Nat) (t tn ty e : TypeId) (i : TypeInfo) (z : Value) (bytes : Nat) (kn : IntKind) (ht : P.underlying t = some (.slice e)) (htn : P.underlying tn = some (.int kn)) (hi : P.info? e = some i) (hz : i.zero = some z)
    (hsize : i.size = 1) (hby : i.bytes = bytes) (hzs : z.cells = #[z]) (hz1 : z.oneCell' = true)
    (A : Option Addr) (c : Nat) (xs : List Value) (hown : Own w base e A c xs) (n : Nat) (h0 : 0 < n) (k : IntKind)
    (h63 : xs.length + n ≤ maxLen) (hbytes : (xs.length + n) * bytes ≤ 140737488355328) (hbase : base ≤ w.heap.size) :
    ∃ A' c' w', (Builtin.append_ #[t, tn] ty #[.slice A xs.length c, .int k n]).run P w = .ok (.slice A' (xs.length + n) c') w' ∧ Own w' base e A' c' (xs ++ List.replicate n z) ∧ w.grownBy w' (A.map (·.block)) ∧
      (A' = A ∨ A' = some ⟨w.heap.size, 0, none⟩) := by
  have h63' : ((xs.length + n : Nat) : Int) ≤ 9223372036854775807 := by simp only [maxLen] at h63; omega
  have h48 : n * i.bytes ≤ 281474976710656 := by rw [hby]; exact Nat.le_trans (Nat.mul_le_mul_right _ (by omega)) (Nat.le_trans hbytes (by decide))
  have own_new : ∀ cap, xs.length + n ≤ cap → cap ≤ maxLen → ∀ w0 : World, base ≤ w0.heap.size → Own (w0.alloc (.cells (xs.toArray ++ Builtin.zeroCells z.cells n ++ Builtin.zeroCells z.cells (cap - (xs.length + n))) e)) base e (some ⟨w0.heap.size, 0, none⟩) cap (xs ++ List.replicate n z) := by
    intro cap hc hm w0 hb0
    refine ⟨by simp, .inr ⟨w0.heap.size, cap, _, rfl, hb0, new_heap w0 _, by simpa using hc, hm, ?_, ?_⟩⟩
    · rw [hzs, ← Array.length_toList, Array.toList_append, Array.toList_append, zeroCells_one, zeroCells_one]
      simp; omega
    · rw [hzs, Array.toList_append, Array.toList_append, zeroCells_one, zeroCells_one, Nat.mul_one, List.length_append, List.length_replicate]
      exact List.take_left' (by simp)
  rcases hown.2 with ⟨hv, hn⟩ | ⟨g, cap, cur, hv, hbg, hg, hnc, hcm, hcs, htake⟩
  · injection hv with h1 _ h3
    subst h1; subst h3
    have hx : xs = [] := List.eq_nil_of_length_eq_zero hn
    subst hx
    have hr := run_append_nil_zeros (P := P) w t tn ty e i z k kn ht htn hi hz n h0 (by omega) (by simpa using h63') h48
    have hcm := grownCap_le_maxLen w n 0 e (by simpa using h63)
    have hge := grownCap_ge w n 0 e
    have ho := own_new (grownCap w n 0 e) (by simpa using hge) hcm w.drew hbase
    simp only [List.length_nil, Nat.zero_add, Array.empty_append] at ho ⊢
    exact ⟨_, _, _, hr, ho, ⟨rfl, rfl, rfl, by simp, fun k hk _ => heap_alloc_old w.drew _ k hk⟩, .inr rfl⟩
  · injection hv with h1 _ h3
    subst h3
    subst h1
    by_cases hroom : xs.length + n ≤ c
    · have hfit : 0 + xs.length + (Builtin.zeroCells z.cells n).toList.length ≤ cur.size := by rw [hzs, zeroCells_one, List.length_replicate, hcs]; omega
      have hst := run_storeCells_at P g xs.length e (Builtin.zeroCells z.cells n).toList 0 cur w hg (by simpa using hfit) (by rw [hzs, zeroCells_one]; intro u hu; rw [List.eq_of_mem_replicate hu]; exact hz1)
      simp only [Nat.add_zero] at hst
      have hk : n ≠ 0 := by omega
      have hw : IntKind.i64.wrap (n : Int) = n := by rw [IntKind.wrap_i64]; omega
      have hneg : ¬ ((n : Int) < 0) := by omega
      have h48i : ¬ (281474976710656 < (n : Int) * (i.bytes : Int)) := by rw [← Int.natCast_mul]; omega
      refine ⟨some ⟨g, 0, none⟩, c, w.setRow g (cur.toList.take xs.length ++ (Builtin.zeroCells z.cells n).toList ++ cur.toList.drop (xs.length + (Builtin.zeroCells z.cells n).toList.length)).toArray, ?_, ?_, ?_, .inl rfl⟩
      · simp [Builtin.append_, run_underlying ht, run_underlying htn, sizeOf, typeInfo, zeroValue, hi, hz, asInt, asIntOf, hw, hroom, hneg, h48i, hsize, hk, Addr.add_lit, hst]
      · refine ⟨by simp, .inr ⟨g, c, _, by simp, hbg, setRow_heap w g cur _ e _ hg, by simpa using hroom, hcm, ?_, ?_⟩⟩
        · rw [hzs, zeroCells_one] at hfit ⊢
          simp at hfit ⊢
          omega
        · rw [hzs, zeroCells_one]
          rw [Nat.mul_one] at htake
          rw [htake, List.length_append, List.length_replicate, Nat.mul_one]
          exact List.take_left' (by simp)
      · exact ⟨rfl, rfl, rfl, by simp, fun j _ hj => setRow_other w g j _ (fun e => hj (by simp [e]))⟩
    · have holds : (Builtin.firstCells i.size xs.length (.slice (some ⟨g, 0, none⟩) xs.length c)).run P w.drew = .ok xs.toArray w.drew := by
        have := run_firstCells_some (P := P) w.drew i.size xs.length ⟨g, 0, none⟩ xs.length c xs (by rw [hsize]; omega) (fun j u hu => World.ownsRow.cells (g := g) hown rfl j u hu)
        exact this
      have hr := run_append_grow_zeros (P := P) w t tn ty e i z k kn ht htn hi hz (some ⟨g, 0, none⟩) xs.length c xs holds n h0 (by omega) (by omega) h63' h48 (growslice_fits (by omega) (by rw [hby]; exact hbytes))
      have hcm' := grownCap_le_maxLen w (xs.length + n) c e h63
      have hge := grownCap_ge w (xs.length + n) c e
      exact ⟨_, _, _, hr, own_new (grownCap w (xs.length + n) c e) hge hcm' w.drew hbase, ⟨rfl, rfl, rfl, by simp, fun k hk _ => heap_alloc_old w.drew _ k hk⟩, .inr rfl⟩
theorem wp_appz {o : Oper} {a : Act} {K : Act → World → Prop} {Q : Exit → Act → World → Prop} (s x : Operand) (t tn : TypeId)
    (ho : o.op = .call { callee := .builtin .append, args := #[s, x], argTypes := #[t, tn] })
    (base : Nat) (e : TypeId) (i : TypeInfo) (z : Value) (bytes : Nat) (kn : IntKind) (ht : P.underlying t = some (.slice e)) (htn : P.underlying tn = some (.int kn)) (hi : P.info? e = some i) (hz : i.zero = some z)
    (hsize : i.size = 1) (hby : i.bytes = bytes) (hzs : z.cells = #[z]) (hz1 : z.oneCell' = true)
    (A : Option Addr) (c m : Nat) (xs : List Value) (hs : a.eval s = .slice A m c) (hnl : m = xs.length) (hown : Own w base e A c xs) (n : Nat) (h0 : 0 < n) (k : IntKind) (V : Int) (hx : a.eval x = .int k V) (hV : V = (n : Int))
    (h63 : xs.length + n ≤ maxLen) (hbytes : (xs.length + n) * bytes ≤ 140737488355328) (hbase : base ≤ w.heap.size) (N : Nat) (hN : N = m + n)
    (h : ∀ A' c' w', Own w' base e A' c' (xs ++ List.replicate n z) → Below base w w' → w.grownBy w' (A.map (·.block)) → (A' = A ∨ A' = some ⟨w.heap.size, 0, none⟩) → K (a.put o.dst (.slice A' N c')) w') : o.wp P a w K Q := by
  subst hnl; subst hV; subst hN
  obtain ⟨A', c', w', hrun, h2, h3, h4⟩ := run_appz (P := P) w base t tn o.type e i z bytes kn ht htn hi hz hsize hby hzs hz1 A c xs hown n h0 k h63 hbytes hbase
  unfold Oper.wp execOp
  simp only [ho, resolve, invoke, builtin, Sem.run_bind, Sem.run_pure, Result.andThen_ok, List.map_toArray, List.map_cons, List.map_nil, hs, hx, hrun]
  exact h A' c' w' h2 (below_of_app hown h3 hbase) h3 h4
theorem wpList_appz {ops : Array Oper} {rest : List Oper} {o : Oper} {a : Act} {Q : Exit → Act → World → Prop} (hgd : o.guard = none) (s x : Operand) (t tn : TypeId)
    (ho : o.op = .call { callee := .builtin .append, args := #[s, x], argTypes := #[t, tn] })
    (base : Nat) (e : TypeId) (i : TypeInfo) (z : Value) (bytes : Nat) (kn : IntKind) (ht : P.underlying t = some (.slice e)) (htn : P.underlying tn = some (.int kn)) (hi : P.info? e = some i) (hz : i.zero = some z)
    (hsize : i.size = 1) (hby : i.bytes = bytes) (hzs : z.cells = #[z]) (hz1 : z.oneCell' = true)
    (A : Option Addr) (c m : Nat) (xs : List Value) (hs : a.eval s = .slice A m c) (hnl : m = xs.length) (hown : Own w base e A c xs) (n : Nat) (h0 : 0 < n) (k : IntKind) (V : Int) (hx : a.eval x = .int k V) (hV : V = (n : Int))
    (h63 : xs.length + n ≤ maxLen) (hbytes : (xs.length + n) * bytes ≤ 140737488355328) (hbase : base ≤ w.heap.size) (N : Nat) (hN : N = m + n)
    (h : ∀ A' c' w', Own w' base e A' c' (xs ++ List.replicate n z) → Below base w w' → w.grownBy w' (A.map (·.block)) → (A' = A ∨ A' = some ⟨w.heap.size, 0, none⟩) → wpList P ops Q rest (a.put o.dst (.slice A' N c')) w') : wpList P ops Q (o :: rest) a w :=
  wpList_plain hgd fun _ hK => wp_appz w s x t tn ho base e i z bytes kn ht htn hi hz hsize hby hzs hz1 A c m xs hs hnl hown n h0 k V hx hV h63 hbytes hbase N hN fun A' c' w' h2 h3 h4 h5 => hK _ _ (h A' c' w' h2 h3 h4 h5)
end
/-- The same at a step of a region that draws its order. -/
theorem step_appz {P : Program} (w : World) {ops : Array Oper} {o : Oper} {a : Act} {K : Act → World → Prop} {Q : Exit → Act → World → Prop} {E : Prop} (hgd : o.guard = none) (s x : Operand) (t tn : TypeId)
    (ho : o.op = .call { callee := .builtin .append, args := #[s, x], argTypes := #[t, tn] })
    (base : Nat) (e : TypeId) (i : TypeInfo) (z : Value) (bytes : Nat) (kn : IntKind) (ht : P.underlying t = some (.slice e)) (htn : P.underlying tn = some (.int kn)) (hi : P.info? e = some i) (hz : i.zero = some z)
    (hsize : i.size = 1) (hby : i.bytes = bytes) (hzs : z.cells = #[z]) (hz1 : z.oneCell' = true)
    (A : Option Addr) (c m : Nat) (xs : List Value) (hs : a.eval s = .slice A m c) (hnl : m = xs.length) (hown : Own w base e A c xs) (n : Nat) (h0 : 0 < n) (k : IntKind) (V : Int) (hx : a.eval x = .int k V) (hV : V = (n : Int))
    (h63 : xs.length + n ≤ maxLen) (hbytes : (xs.length + n) * bytes ≤ 140737488355328) (hbase : base ≤ w.heap.size) (N : Nat) (hN : N = m + n)
    (h : ∀ A' c' w', Own w' base e A' c' (xs ++ List.replicate n z) → Below base w w' → w.grownBy w' (A.map (·.block)) → (A' = A ∨ A' = some ⟨w.heap.size, 0, none⟩) → K (a.put o.dst (.slice A' N c')) w') :
    if Region.wanted o (yielded ops a.tmps) = true then Oper.wp P o a w K Q else E := by
  rw [if_pos (by simp [Region.wanted, hgd])]
  exact wp_appz w s x t tn ho base e i z bytes kn ht htn hi hz hsize hby hzs hz1 A c m xs hs hnl hown n h0 k V hx hV h63 hbytes hbase N hN h
theorem step_app {P : Program} (w : World) {ops : Array Oper} {o : Oper} {a : Act} {K : Act → World → Prop} {Q : Exit → Act → World → Prop} {E : Prop} (hgd : o.guard = none) (s x : Operand) (t : TypeId)
    (ho : o.op = .call { callee := .builtin .append, args := #[s, x], argTypes := #[t, t] })
    (base : Nat) (e : TypeId) (i : TypeInfo) (z : Value) (bytes : Nat) (ht : P.underlying t = some (.slice e)) (hi : P.info? e = some i) (hz : i.zero = some z)
    (hsize : i.size = 1) (hby : i.bytes = bytes) (hzs : z.cells.size = 1)
    (A : Option Addr) (c n : Nat) (xs : List Value) (hs : a.eval s = .slice A n c) (hnl : n = xs.length) (hown : Own w base e A c xs) (B : Nat) (S : Option Addr) (d m : Nat) (news : List Value) (hx : a.eval x = .slice S m d) (hm : m = news.length) (hn : Cells w B S news) (h1 : ∀ u ∈ news, u.oneCell' = true)
    (h63 : xs.length + news.length ≤ maxLen) (hbytes : (xs.length + news.length) * bytes ≤ 140737488355328) (hbase : base ≤ w.heap.size) (N : Nat) (hN : N = n + m)
    (h : ∀ A' c' w', Own w' base e A' c' (xs ++ news) → Below base w w' → w.grownBy w' (A.map (·.block)) → (A' = A ∨ A' = some ⟨w.heap.size, 0, none⟩) → K (a.put o.dst (.slice A' N c')) w') :
    if Region.wanted o (yielded ops a.tmps) = true then Oper.wp P o a w K Q else E := by
  rw [if_pos (by simp [Region.wanted, hgd])]
  subst hN
  exact wp_app w s x t ho base e i z bytes ht hi hz hsize hby hzs A c n xs hs hnl hown B S d m news hx hm hn h1 h63 hbytes hbase h
end Go.Proofs.Ythdapoipfnnaeaa.Mem
