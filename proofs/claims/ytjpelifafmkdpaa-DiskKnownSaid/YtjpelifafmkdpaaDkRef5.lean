/- What the document's Write and New ask for: laws of a drawn region, a block with a late write more. -/
import Derived.Test.YtjpelifafmkdpaaDkRef4
namespace Go.Proofs.Ytjpelifafmkdpaa.Rng
open Go.RowKit Go.Shelf Mem
set_option linter.unusedVariables false

section
variable {P : Program} {ops : Array Oper} {Q : Exit → Act → World → Prop} {md : Region.Mode} {T T' : World → Prop} {st : List Nat}
/-- More may be known behind each operation. -/
theorem wpAnyG_more (hT : ∀ w, T' w → T w) : ∀ (fuel : Nat) (listed : Array Bool) (a : Act) (w : World), wpAnyG P md ops Q T' st fuel listed a w → wpAnyG P md ops Q T st fuel listed a w
  | 0, _, _, _, h => h
  | fuel + 1, _, _, _, h => ⟨h.1, fun i hi => wpOp_mono (fun a' w' h' => ⟨fun hk => hT _ (h'.1 hk), wpAnyG_more hT fuel _ a' w' h'.2⟩) (h.2 i hi)⟩
/-- One of two may come up. -/
theorem wpAnyG_two {i j : Nat} {o u : Oper} {fuel : Nat} {listed : Array Bool} {a : Act} {w : World} (hr : Region.ready md ops listed = [i, j]) (ho : ops[i]? = some o) (hu : ops[j]? = some u)
    (h : ∀ K' : Act → World → Prop, Shut (∀ a w, (stOk st (listed.setIfInBounds i true) = true → T w) → ((stOk st (listed.setIfInBounds i true) = true → T w) → wpAnyG P md ops Q T st fuel (listed.setIfInBounds i true) a w) → K' a w) → if Region.wanted o (yielded ops a.tmps) = true then Oper.wp P o a w K' Q else K' (a.put o.dst undef) w)
    (h2 : ∀ K' : Act → World → Prop, Shut (∀ a w, (stOk st (listed.setIfInBounds j true) = true → T w) → ((stOk st (listed.setIfInBounds j true) = true → T w) → wpAnyG P md ops Q T st fuel (listed.setIfInBounds j true) a w) → K' a w) → if Region.wanted u (yielded ops a.tmps) = true then Oper.wp P u a w K' Q else K' (a.put u.dst undef) w) :
    wpAnyG P md ops Q T st (fuel + 1) listed a w := by
  refine ⟨(fun h0 => by rw [hr] at h0; cases h0), fun k hk => ?_⟩
  rw [hr] at hk
  rcases List.mem_cons.1 hk with rfl | hk
  · exact wpOp_step ho (fun K' hK => h K' (fun a w hS hW => hK a w ⟨hS, hW hS⟩))
  · obtain rfl := List.mem_singleton.1 hk
    exact wpOp_step hu (fun K' hK => h2 K' (fun a w hS hW => hK a w ⟨hS, hW hS⟩))
theorem step_mk {o : Oper} {a : Act} {R : Act → World → Prop} {E : Prop} (w : World) (hg : o.guard = none) (l c : Operand) (t : TypeId) (hop : o.op = Op.makeSlice t l c)
    (e : TypeId) (i : TypeInfo) (bytes : Nat) (z : Value) (h1 : P.underlying t = some (.slice e)) (h2 : P.info? e = some i) (h3 : i.zero = some z) (h4 : i.size = 1) (h5 : i.bytes = bytes) (hzc : z.cells = #[z])
    (L : Int) (n : Nat) (hl : a.eval l = .int .i64 L) (hc : a.eval c = .int .i64 L) (hL : L = (n : Int)) (hn : bytes * n ≤ 281474976710656) (hn2 : n ≤ maxLen) (N : Nat) (hN : N = n)
    (hK : R (a.put o.dst (.slice (some ⟨w.heap.size, 0, none⟩) N N)) (w.alloc (.cells (Array.replicate n z) e))) :
    if Region.wanted o (yielded ops a.tmps) = true then Oper.wp P o a w R Q else E := by
  rw [if_pos (by simp [Region.wanted, hg])]
  subst hL; subst hN
  have hrun := run_make (P := P) w t e i z h1 h2 h3 .i64 .i64 (N : Int) (N : Int) (by omega) (by omega) (by rw [h5, ← Int.natCast_mul]; omega) (by unfold maxLen at hn2; omega)
  rw [hzc, h4, Nat.mul_one, Int.toNat_natCast] at hrun
  rw [show madeCells #[z] N = Array.replicate N z from by apply Array.toList_inj.1; rw [toList_madeCells_one, Array.toList_replicate]] at hrun
  unfold Oper.wp
  simp only [execOp, hop, hl, hc, Sem.run_bind, Sem.run_pure, hrun, Result.andThen_ok]
  exact hK
end
end Go.Proofs.Ytjpelifafmkdpaa.Rng
namespace Go.Proofs.Ytjpelifafmkdpaa.DkW
open Go.RowKit Go.Shelf Mem Rng
set_option linter.unusedVariables false

theorem ltinfo : (Try.prog.info? 78).map (fun i => (i.zero, i.size, i.bytes)) = some (some (.agg #[.int .i64 0, .string (str [])]), 2, 24) := by kernel_rfl
theorem bkinfo : (Try.prog.info? 71).map (fun i => (i.zero, i.size, i.bytes)) = some (some (.agg #[.string (str []), .slice none 0 0]), 2, 40) := by kernel_rfl
theorem u8inf : (Try.prog.info? 5).map (fun i => (i.zero, i.size, i.bytes)) = some (some (.int .u8 0), 1, 1) := by kernel_rfl
theorem ownK_none (w : World) (T : TypeId) (K : Nat) : OwnK (w.alloc (.cells #[] T)) w.heap.size T K (some ⟨w.heap.size, 0, none⟩) 0 0 [] :=
  ⟨by rw [Nat.zero_mul]; rfl, .inr ⟨w.heap.size, 0, #[], rfl, Nat.le_refl _, new_heap w _, Nat.le_refl _, Nat.zero_le _, by rw [Nat.zero_mul]; rfl, by rw [Nat.zero_mul]; rfl⟩⟩
theorem lt_one (l : List (Nat × List UInt8)) : ∀ u ∈ l.flatMap ltc, u.oneCell' = true := by
  intro u hu
  obtain ⟨x, _, hx⟩ := List.mem_flatMap.1 hu
  simp [ltc] at hx
  rcases hx with rfl | rfl <;> rfl
theorem zeros_bytes (w : World) (n : Nat) (T : TypeId) : Bytes (w.alloc (.cells (Array.replicate n (.int .u8 0)) T)) (w.heap.size + 1) (some ⟨w.heap.size, 0, none⟩) (List.replicate n 0) :=
  Bytes.new w (List.replicate n 0) T (0, 0) _ (by rw [Array.toList_replicate, List.map_replicate]; rfl) _ (Nat.lt_succ_self _)
theorem LateR.cells {G : Nat → Prop} {q : Nat} {A0 A : Option Addr} {ls : List (Nat × List UInt8)} {w : World} (h : LateR G q A0 A ls w) : Cells w w.heap.size A (ls.flatMap ltc) := by
  rcases h with rfl | ⟨_, _, _, _, _, h⟩
  · exact Cells.nil
  · exact h
theorem Blk.ne_ownK {w : World} {g : Nat} {T : TypeId} {cs : Array Value} (h : Blk w g T cs) {base' K n c' : Nat} {T' : TypeId} {A' : Option Addr} {ys : List Value} (ho : OwnK w base' T' K A' n c' ys) (hT : T ≠ T') : A' ≠ some ⟨g, 0, none⟩ := by
  intro e1
  subst e1
  have h' : w.heap[g]? = some (.cells cs T (0, 0)) := h
  rcases ho.2 with ⟨hv, _⟩ | ⟨g2, cap, cur, hv, _, hh, _⟩
  · injection hv with hv; cases hv
  · injection hv with hv _ _
    injection hv with hv; injection hv with hv
    subst hv
    rw [h'] at hh
    injection hh with hh; injection hh with _ hh
    exact hT hh
theorem Blk.appK {w w' : World} {g : Nat} {T : TypeId} {cs : Array Value} (h : Blk w g T cs) {base' K n c' : Nat} {T' : TypeId} {A' : Option Addr} {ys : List Value} (ho : OwnK w base' T' K A' n c' ys) (hT : T ≠ T') (hg : w.grownBy w' (A'.map (·.block))) : Blk w' g T cs :=
  h.fr (Fr.grown (S := fun k => A' = some ⟨k, 0, none⟩) hg fun k hk => rowK ho hk) fun e => Blk.ne_ownK h ho hT e
theorem step_nilrow {ops : Array Oper} {o : Oper} {a : Act} {R : Act → World → Prop} {Q : Exit → Act → World → Prop} {E : Prop} (w : World) (hgd : o.guard = none) (ho : o.op = .buildSlice 69 0 #[])
    (h : ∀ A' w', OwnK w' w.heap.size 78 2 A' 0 0 [] → Below w.heap.size w w' → R (a.put o.dst (.slice A' 0 0)) w') : if Region.wanted o (yielded ops a.tmps) = true then Oper.wp Try.prog o a w R Q else E := by
  rw [if_pos (by simp [Region.wanted, hgd])]
  unfold Oper.wp execOp
  simp only [ho, Sem.run_bind]
  have hrun : (Instr.buildSlice 69 0 #[]).run Try.prog w = .ok (.slice (some ⟨w.heap.size, 0, none⟩) 0 0) (w.alloc (.cells #[] 78)) := by kernel_rfl
  simp only [List.map_toArray, List.map_nil, hrun, Result.andThen_ok]
  exact h _ _ (ownK_none w _ 2) (nextA (Mem.start w) _)
theorem step_zeros {ops : Array Oper} {o : Oper} {a : Act} {R : Act → World → Prop} {Q : Exit → Act → World → Prop} {E : Prop} (w : World) (hgd : o.guard = none) (x y : Operand) (ho : o.op = .makeSlice 23 x y) (n : Nat) (hx : a.eval x = .int .i64 (n : Int)) (hy : a.eval y = .int .i64 (n : Int)) (hn : n ≤ 256)
    (h : ∀ z w', Blk w' z 5 (Array.replicate n (.int .u8 0)) → Below w.heap.size w w' → R (a.put o.dst (.slice (some ⟨z, 0, none⟩) n n)) w') : if Region.wanted o (yielded ops a.tmps) = true then Oper.wp Try.prog o a w R Q else E := by
  obtain ⟨i0, hi0, hz0, hz1, hz2⟩ := info_parts u8inf
  exact step_mk w hgd x y _ ho 5 i0 1 (.int .u8 0) Try.underlying23 hi0 hz0 hz1 hz2 rfl _ n hx hy rfl (by omega) (by unfold maxLen; omega) n rfl (h _ _ (Blk.new w _ _) (nextA (Mem.start w) _))
theorem blk_zeros {w : World} {z n : Nat} {T : TypeId} (h : Blk w z T (Array.replicate n (.int .u8 0))) : Bytes w (z + 1) (some ⟨z, 0, none⟩) (List.replicate n 0) := fun _ =>
  ⟨z, 0, rfl, Nat.lt_succ_self _, fun j v hv => by
    rw [h.cell, Nat.zero_add, ← hv]
    simp only [List.getElem?_map, Array.getElem?_replicate, List.getElem?_replicate]
    split <;> rfl⟩
section
variable {G : Nat → Prop} {q n c done : Nat} {A : Option Addr} {f f' : Nat → RB} {inn : Int} {gone : Bool} {w w' : World}
/-- A late row more, of the call's own. -/
theorem Rd.setL {g g2 : Nat} (h : Rd G q (some ⟨g, 0, none⟩) n c f done inn gone w) {i : Nat} (hi : i < n) (ls : List (Nat × List UInt8)) (m d : Nat) (hm : ls.length = m) (hlen : ls.length ≤ 256 ^ 3) (hg2 : g2 < w.heap.size) (hG : ¬ G g2) (hc : Cells w w.heap.size (some ⟨g2, 0, none⟩) (ls.flatMap ltc)) :
    Rd (fun k => G k ∨ k = g2) q (some ⟨g, 0, none⟩) n c (setF f i ((f i).1, ls)) done inn gone (w.setCell ⟨g, i * 2 + 1, none⟩ (.slice (some ⟨g2, 0, none⟩) m d)) ∧ Fr G w (w.setCell ⟨g, i * 2 + 1, none⟩ (.slice (some ⟨g2, 0, none⟩) m d)) := by
  subst hm
  rcases h.row with h0 | ⟨g', cur, e, hb, hg, hq, hcc⟩
  · omega
  · injection e with e; injection e with e; subst e
    have hf : Fr (fun k => k = g) w (w.setCell ⟨g, i * 2 + 1, none⟩ (.slice (some ⟨g2, 0, none⟩) ls.length d)) := (Fr.refl (fun k => k = g) w).setCell (p := ⟨g, i * 2 + 1, none⟩) (fun _ => rfl) _
    have hb2 := hb.set_ (i * 2 + 1) (.slice (some ⟨g2, 0, none⟩) ls.length d)
    have hlt : i * 2 + 1 < cur.size := by
      obtain ⟨B, d, h1, h2, _⟩ := hcc i hi
      exact (Array.getElem?_eq_some_iff.1 h2).1
    have hg2g : g2 ≠ g := fun e => hG (by rw [e]; exact hg)
    refine ⟨⟨h.blk.fr hf (fun e => hq e.symm), .inr ⟨g, _, rfl, hb2, .inl hg, hq, fun j hj => ?_⟩, .inl h.foot, fun k hk => ?_, h.bound.1, h.bound.2.1, h.bound.2.2.1, h.bound.2.2.2.1, fun j hj => ?_⟩, hf.mono fun k _ e => by rw [e]; exact hg⟩
    · unfold setF
      by_cases hji : j = i
      · subst hji
        obtain ⟨B, d', h1, h2, h3⟩ := hcc j hj
        rw [if_pos rfl]
        refine ⟨some ⟨g2, 0, none⟩, d, ?_, ?_, Or.inr ⟨g2, rfl, .inr rfl, fun e => hG (by rw [e]; exact h.foot), (fun e => by injection e with e; injection e with e; exact hg2g e.symm), fun hl => ?_⟩⟩
        · rw [Array.getElem?_setIfInBounds_ne (by omega)]; exact h1
        · rw [Array.getElem?_setIfInBounds_self_of_lt hlt]
        · obtain ⟨b, off, e, hb, hcl⟩ := hc hl
          injection e with e; injection e with e1 e2; subst e1; subst e2
          exact ⟨_, _, rfl, Nat.lt_of_lt_of_le hb hf.size, fun q v hv => (World.cell?_of_block (hf.block _ hb hg2g)).trans (hcl q v hv)⟩
      · rw [if_neg hji]
        obtain ⟨B, d, h1, h2, h3⟩ := hcc j hj
        refine ⟨B, d, ?_, ?_, (h3.other hf).more fun _ h => .inl h⟩
        · rw [Array.getElem?_setIfInBounds_ne (by omega)]; exact h1
        · rw [Array.getElem?_setIfInBounds_ne (by omega)]; exact h2
    · rcases hk with hk | rfl
      · exact Nat.lt_of_lt_of_le (h.lt k hk) hf.size
      · exact Nat.lt_of_lt_of_le hg2 hf.size
    · unfold setF
      split
      · exact hlen
      · exact h.bound.2.2.2.2 j hj
end
section
variable {s : DS}
/-- The disk with a late write more, ahead of the step. -/
def DS.lay (s : DS) (i : Int) (l : List UInt8) : DS := { s with L := s.L ++ [(i, pad l)], N := upd s.N i (pad l) }
theorem lay_f (i : Nat) (l : List UInt8) : fOf (s.lay (i : Int) l) = setF (fOf s) i ((fOf s i).1, latesAt 0 s.L (i : Int) ++ [(s.L.length, pad l)]) := by
  funext k
  unfold setF fOf DS.lay
  dsimp only
  rw [latesAt_snoc]
  by_cases hki : k = i
  · subst hki
    rw [if_pos rfl, if_pos rfl, Nat.zero_add]
  · rw [if_neg hki, if_neg (by dsimp only; omega)]
theorem lastOf_snoc (S : List UInt8) (l : List (Nat × List UInt8)) (x : Nat × List UInt8) : lastOf S (l ++ [x]) = x.2 := by
  unfold lastOf
  rw [List.getLast?_append]; rfl
theorem Tidy.lay (h : Tidy s) (i : Nat) (hi : i < s.n) (l : List UInt8) (hl : l.length ≤ 256) : Tidy ((s.lay (i : Int) l).step id).1 := by
  obtain ⟨h1, h2, h3, h4, h5⟩ := step_id_keeps (s.lay (i : Int) l)
  refine ⟨?_, by rw [h2]; exact h.settled, ?_, ?_⟩
  · rw [h1, h4]
    intro x hx
    rcases List.mem_append.1 hx with hx | hx
    · exact h.lates x hx
    · obtain rfl := List.mem_singleton.1 hx
      exact ⟨by dsimp only; omega, by show (i : Int) < (s.n : Int); omega, pad_len hl⟩
  · rw [h2, h3, h4]
    intro k
    show upd s.N i (pad l) (k : Int) = lastOf (s.S k) (latesAt 0 (s.L ++ [((i : Int), pad l)]) (k : Int))
    rw [latesAt_snoc]
    unfold upd
    by_cases hki : k = i
    · subst hki
      rw [if_pos rfl, if_pos rfl, lastOf_snoc]
    · rw [if_neg (by omega), if_neg (by dsimp only; omega)]
      exact h.now k
  · rw [h4, h5]
    show (s.L ++ [_]).length ≤ s.steps + 1
    rw [List.length_append]
    have := h.few
    show s.L.length + 1 ≤ _
    omega
theorem may_len (i : Int) (m : Nat) : s.may i m = if s.may i 0 ≠ 0 then s.may i 0 else if 256 < m then 3 else 0 := by
  unfold DS.may
  by_cases h1 : s.off = true
  · rw [if_pos h1, if_pos h1, if_pos (by decide)]
  · rw [if_neg h1, if_neg h1]
    by_cases h2 : i < 0 ∨ (s.n : Int) ≤ i
    · rw [if_pos h2, if_pos h2, if_pos (by decide)]
    · rw [if_neg h2, if_neg h2]
      simp
theorem write_no (i : Int) (l : List UInt8) (h : s.may i l.length ≠ 0) : s.write i l = (s, s.may i l.length) := by
  unfold DS.write
  rw [if_pos h]
theorem write_ok (i : Int) (l : List UInt8) (h : s.may i l.length = 0) : s.write i l = (s.lay i l).step id := by
  unfold DS.write
  rw [h, if_neg (by decide)]; rfl
end
end Go.Proofs.Ytjpelifafmkdpaa.DkW
