/- Package wire's bare. Printed by genbare17.py. -/
import Derived.Test.YtebdmfmadbikaaaDoorWrFld
namespace Go.Proofs.YtebdmfmadbikaaaDoor.WiW
open Go.RowKit Go.Shelf Mem Fds FdW Wi Rng
set_option linter.unusedVariables false
set_option linter.unusedSimpArgs false
attribute [local go_sem] Oper.semAt_some wide_fn

def keepS (s : Sl) (fs : List Nat) : Sl where
  ia := if 8 ∈ fs then s.ia else none
  ic := if 8 ∈ fs then s.ic else 0
  na := if 9 ∈ fs then s.na else none
  nc := if 9 ∈ fs then s.nc else 0
  da := if 10 ∈ fs then s.da else none
  dk := if 10 ∈ fs then s.dk else 0
theorem minfo : (Tryd.prog.info? 27).map (·.size) = some 14 := by kernel_rfl
theorem mv_one (m : Msg) (s : Sl) : (mv m s).all (·.oneCell') = true := Array.all_eq_true_iff_forall_mem.2 (by intro v hv; simp [mv] at hv; rcases hv with rfl | rfl | rfl | rfl | rfl | rfl | rfl | rfl | rfl | rfl | rfl | rfl | rfl | rfl <;> rfl)
theorem range_of {w : World} {g : Nat} {T : TypeId} {cs : Array Value} (h : Blk w g T cs) : w.rangeAt g 0 cs.toList := fun j v hv => by rw [Nat.zero_add, h.cell, ← hv, Array.getElem?_toList]
theorem there_of {w : World} {g : Nat} {T : TypeId} {cs : Array Value} {m : Msg} {s : Sl} (h : Blk w g T cs) (hs : cs.size = 14 := by rfl) : w.there g 0 (mv m s).size := fun j hj => by
  have hj : j < 14 := hj
  refine ⟨?_, ?_⟩
  · rw [Nat.zero_add, h.cell j, Array.getElem?_eq_getElem (by omega)]; rfl
  · rw [Nat.zero_add]; exact h.frozen j
def setAll (cs : Array Value) : Nat → List Value → Array Value
  | _, [] => cs
  | o, v :: vs => setAll (cs.setIfInBounds o v) (o + 1) vs
theorem blk_setCells {g : Nat} {T : TypeId} : ∀ (vs : List Value) (o : Nat) (w : World) (cs : Array Value), Blk w g T cs → Blk (w.setCells g o vs) g T (setAll cs o vs)
  | [], o, w, cs, h => h
  | v :: vs, o, w, cs, h => blk_setCells vs (o + 1) _ _ (h.set_ o v)
theorem fr_setCells {S : Nat → Prop} {g : Nat} {w0 : World} (hS : S g) : ∀ (vs : List Value) (o : Nat) (w : World), Fr S w0 w → Fr S w0 (w.setCells g o vs)
  | [], o, w, h => h
  | v :: vs, o, w, h => fr_setCells hS vs (o + 1) _ (h.setCell (p := ⟨g, o, none⟩) (fun _ => hS) v)
theorem setAll14 (m : Msg) (s : Sl) : setAll #[.int .u8 0, .int .i64 0, .int .i64 0, .int .i64 0, .string { data := #[] }, .int .i64 0, .int .i64 0, .int .i64 0, .int .i64 0, .int .i64 0, .bool false, .slice none 0 0, .slice none 0 0, .slice none 0 0] 0 (mv m s).toList = mv m s := by
  simp [mv, setAll]
theorem set14 {w : World} {g : Nat} {T : TypeId} (h : Blk w g T #[.int .u8 0, .int .i64 0, .int .i64 0, .int .i64 0, .string { data := #[] }, .int .i64 0, .int .i64 0, .int .i64 0, .int .i64 0, .int .i64 0, .bool false, .slice none 0 0, .slice none 0 0, .slice none 0 0]) (m : Msg) (s : Sl) : Blk (w.setCells g 0 (mv m s).toList) g T (mv m s) := by
  have h4 := blk_setCells (mv m s).toList 0 w _ h
  rw [setAll14] at h4; exact h4
theorem set14_fr (w : World) (g : Nat) (m : Msg) (s : Sl) : Fr (fun k => k = g) w (w.setCells g 0 (mv m s).toList) := fr_setCells (S := fun k => k = g) rfl _ _ _ (Fr.refl _ w)
theorem MIn.kept {w : World} {B : Nat} {m : Msg} {s : Sl} (h : MIn w B m s) (fs : List Nat) : MIn w B (Wi.keep m fs) (keepS s fs) := by
  obtain ⟨h1, h2, h3, h4, h5, h6, h7, h8, h9⟩ := h
  refine ⟨?_, ?_, ?_, h4, ?_, ?_, ?_, ?_, ?_⟩
  · show Cells w B (if 8 ∈ fs then s.ia else none) ((if 8 ∈ fs then m.ids else []).flatMap dc)
    split
    · exact h1
    · exact Cells.nil
  · show Cells w B (if 9 ∈ fs then s.na else none) ((if 9 ∈ fs then m.nodes else []).map iv)
    split
    · exact h2
    · exact Cells.nil
  · show Bytes w B (if 10 ∈ fs then s.da else none) (if 10 ∈ fs then m.data else [])
    split
    · exact h3
    · exact Bytes.nil
  · show (if 1 ∈ fs then m.key else []).length ≤ _
    split
    · exact h5
    · simp
  · show (if 8 ∈ fs then m.ids else []).length ≤ _
    split
    · exact h6
    · simp
  · show (if 9 ∈ fs then m.nodes else []).length ≤ _
    split
    · exact h7
    · simp
  · show (if 10 ∈ fs then m.data else []).length ≤ _
    split
    · exact h8
    · simp
  · show ∀ x ∈ (if 8 ∈ fs then m.ids else []), _
    split
    · exact h9
    · simp
theorem keep_snoc0 (m : Msg) (s : Sl) (pre : List Nat) : mv (keep m (pre ++ [0])) (keepS s (pre ++ [0])) = (mv (keep m pre) (keepS s pre)).setIfInBounds 3 ((mv m s)[3]'(by simp [mv])) := by simp [mv, keep, keepS]
theorem keep_snoc1 (m : Msg) (s : Sl) (pre : List Nat) : mv (keep m (pre ++ [1])) (keepS s (pre ++ [1])) = (mv (keep m pre) (keepS s pre)).setIfInBounds 4 ((mv m s)[4]'(by simp [mv])) := by simp [mv, keep, keepS]
theorem keep_snoc2 (m : Msg) (s : Sl) (pre : List Nat) : mv (keep m (pre ++ [2])) (keepS s (pre ++ [2])) = (mv (keep m pre) (keepS s pre)).setIfInBounds 5 ((mv m s)[5]'(by simp [mv])) := by simp [mv, keep, keepS]
theorem keep_snoc3 (m : Msg) (s : Sl) (pre : List Nat) : mv (keep m (pre ++ [3])) (keepS s (pre ++ [3])) = (mv (keep m pre) (keepS s pre)).setIfInBounds 6 ((mv m s)[6]'(by simp [mv])) := by simp [mv, keep, keepS]
theorem keep_snoc4 (m : Msg) (s : Sl) (pre : List Nat) : mv (keep m (pre ++ [4])) (keepS s (pre ++ [4])) = (mv (keep m pre) (keepS s pre)).setIfInBounds 7 ((mv m s)[7]'(by simp [mv])) := by simp [mv, keep, keepS]
theorem keep_snoc5 (m : Msg) (s : Sl) (pre : List Nat) : mv (keep m (pre ++ [5])) (keepS s (pre ++ [5])) = (mv (keep m pre) (keepS s pre)).setIfInBounds 8 ((mv m s)[8]'(by simp [mv])) := by simp [mv, keep, keepS]
theorem keep_snoc6 (m : Msg) (s : Sl) (pre : List Nat) : mv (keep m (pre ++ [6])) (keepS s (pre ++ [6])) = (mv (keep m pre) (keepS s pre)).setIfInBounds 9 ((mv m s)[9]'(by simp [mv])) := by simp [mv, keep, keepS]
theorem keep_snoc7 (m : Msg) (s : Sl) (pre : List Nat) : mv (keep m (pre ++ [7])) (keepS s (pre ++ [7])) = (mv (keep m pre) (keepS s pre)).setIfInBounds 10 ((mv m s)[10]'(by simp [mv])) := by simp [mv, keep, keepS]
theorem keep_snoc8 (m : Msg) (s : Sl) (pre : List Nat) : mv (keep m (pre ++ [8])) (keepS s (pre ++ [8])) = (mv (keep m pre) (keepS s pre)).setIfInBounds 11 ((mv m s)[11]'(by simp [mv])) := by simp [mv, keep, keepS]
theorem keep_snoc9 (m : Msg) (s : Sl) (pre : List Nat) : mv (keep m (pre ++ [9])) (keepS s (pre ++ [9])) = (mv (keep m pre) (keepS s pre)).setIfInBounds 12 ((mv m s)[12]'(by simp [mv])) := by simp [mv, keep, keepS]
theorem keep_snoc10 (m : Msg) (s : Sl) (pre : List Nat) : mv (keep m (pre ++ [10])) (keepS s (pre ++ [10])) = (mv (keep m pre) (keepS s pre)).setIfInBounds 13 ((mv m s)[13]'(by simp [mv])) := by simp [mv, keep, keepS]
/-- The blocks of bare's frame, from b on: the message, the result, the copy. -/
def BareI (w : World) (m : Msg) (s : Sl) (pre : List Nat) (W : World) : Prop :=
  Below w.heap.size w W ∧ Blk W w.heap.size 27 (mv m s) ∧ Blk W (w.heap.size + 1) 27 #[.int .u8 0, .int .i64 0, .int .i64 0, .int .i64 0, .string { data := #[] }, .int .i64 0, .int .i64 0, .int .i64 0, .int .i64 0, .int .i64 0, .bool false, .slice none 0 0, .slice none 0 0, .slice none 0 0] ∧ Blk W (w.heap.size + 2) 27 (mv (keep m pre) (keepS s pre))
theorem BareI.fr {w : World} {m : Msg} {s : Sl} {pre : List Nat} {W W' : World} {S : Nat → Prop} (h : BareI w m s pre W) (hf : Fr S W W') (hS : ∀ k, S k → w.heap.size + 3 ≤ k) : BareI w m s pre W' := by
  obtain ⟨h1, h2, h3, h4⟩ := h
  exact ⟨h1.trans (hf.below h1.size fun k hk => by have := hS k hk; omega), h2.fr hf (fun h => by have := hS _ h; omega), h3.fr hf (fun h => by have := hS _ h; omega), h4.fr hf (fun h => by have := hS _ h; omega)⟩

set_option maxRecDepth 100000 in
set_option maxHeartbeats 8000000 in
theorem bare_any (w : World) (m : Msg) (s : Sl) (hT : HasT w) (hk : m.kind < 256) :
    Calls Tryd.prog 48 #[.agg (mv m s)] w fun e w' => e = .returned (.agg (mv (keep m (flds m.kind)) (keepS s (flds m.kind)))) ∧ Below w.heap.size w w' := by
  refine of_wide ?_
  refine callsIn_of_wp_marks Tryd.func48 rfl trivial ?_ rfl
  refine wpIn_wide.2 ?_
  simp only [Tryd.ntmps48, List.size_toArray, List.length_cons, List.length_nil, Nat.reduceAdd, Nat.reduceSub, Array.replicate_succ, Array.replicate_zero, List.push_toArray, List.append_toArray, List.nil_append, List.cons_append]
  have HK := Lib.hid hk
  have HT := Lib.hid hT
  clear hk hT
  have hmv : mv m s = #[.int .u8 (m.kind : Int), .int .i64 m.frm, .int .i64 m.to_, .int .i64 m.req, .string (str m.key), .int .i64 m.ver, .int .i64 m.inc, .int .i64 m.size, .int .i64 m.code, .int .i64 m.node, .bool m.back, .slice s.ia m.ids.length s.ic, .slice s.na m.nodes.length s.nc, .slice s.da m.data.length s.dk] := rfl
  go_wp2_with fail
  clear hmv
  have HI := Lib.hid (show BareI w m s [] (((w.alloc (.cells #[.int .u8 (m.kind : Int), .int .i64 m.frm, .int .i64 m.to_, .int .i64 m.req, .string (str m.key), .int .i64 m.ver, .int .i64 m.inc, .int .i64 m.size, .int .i64 m.code, .int .i64 m.node, .bool m.back, .slice s.ia m.ids.length s.ic, .slice s.na m.nodes.length s.nc, .slice s.da m.data.length s.dk] 27)).alloc (.cells #[.int .u8 0, .int .i64 0, .int .i64 0, .int .i64 0, .string { data := #[] }, .int .i64 0, .int .i64 0, .int .i64 0, .int .i64 0, .int .i64 0, .bool false, .slice none 0 0, .slice none 0 0, .slice none 0 0] 27)).alloc (.cells #[.int .u8 (m.kind : Int), .int .i64 m.frm, .int .i64 m.to_, .int .i64 0, .string { data := #[] }, .int .i64 0, .int .i64 0, .int .i64 0, .int .i64 0, .int .i64 0, .bool false, .slice none 0 0, .slice none 0 0, .slice none 0 0] 27)) from by
    refine ⟨nextA (nextA (nextA (Mem.start w) _) _) _, ?_, ?_, ?_⟩
    · exact ((Blk.new w 27 (mv m s)).keep (nextA (Mem.start _) _)).keep (nextA (Mem.start _) _)
    · have := (Blk.new (w.alloc (.cells (mv m s) 27)) 27 #[.int .u8 0, .int .i64 0, .int .i64 0, .int .i64 0, .string { data := #[] }, .int .i64 0, .int .i64 0, .int .i64 0, .int .i64 0, .int .i64 0, .bool false, .slice none 0 0, .slice none 0 0, .slice none 0 0]).keep (nextA (Mem.start _) (.cells #[.int .u8 (m.kind : Int), .int .i64 m.frm, .int .i64 m.to_, .int .i64 0, .string { data := #[] }, .int .i64 0, .int .i64 0, .int .i64 0, .int .i64 0, .int .i64 0, .bool false, .slice none 0 0, .slice none 0 0, .slice none 0 0] 27))
      rw [World.size_alloc] at this
      exact this
    · have := Blk.new ((w.alloc (.cells (mv m s) 27)).alloc (.cells #[.int .u8 0, .int .i64 0, .int .i64 0, .int .i64 0, .string { data := #[] }, .int .i64 0, .int .i64 0, .int .i64 0, .int .i64 0, .int .i64 0, .bool false, .slice none 0 0, .slice none 0 0, .slice none 0 0] 27)) 27 #[.int .u8 (m.kind : Int), .int .i64 m.frm, .int .i64 m.to_, .int .i64 0, .string { data := #[] }, .int .i64 0, .int .i64 0, .int .i64 0, .int .i64 0, .int .i64 0, .bool false, .slice none 0 0, .slice none 0 0, .slice none 0 0]
      rw [World.size_alloc, World.size_alloc] at this
      exact this)
  have HS1 := Lib.hid (show ((((w.alloc (.cells #[.int .u8 (m.kind : Int), .int .i64 m.frm, .int .i64 m.to_, .int .i64 m.req, .string (str m.key), .int .i64 m.ver, .int .i64 m.inc, .int .i64 m.size, .int .i64 m.code, .int .i64 m.node, .bool m.back, .slice s.ia m.ids.length s.ic, .slice s.na m.nodes.length s.nc, .slice s.da m.data.length s.dk] 27)).alloc (.cells #[.int .u8 0, .int .i64 0, .int .i64 0, .int .i64 0, .string { data := #[] }, .int .i64 0, .int .i64 0, .int .i64 0, .int .i64 0, .int .i64 0, .bool false, .slice none 0 0, .slice none 0 0, .slice none 0 0] 27)).alloc (.cells #[.int .u8 (m.kind : Int), .int .i64 m.frm, .int .i64 m.to_, .int .i64 0, .string { data := #[] }, .int .i64 0, .int .i64 0, .int .i64 0, .int .i64 0, .int .i64 0, .bool false, .slice none 0 0, .slice none 0 0, .slice none 0 0] 27))).heap.size = w.heap.size + 3 by simp)
  generalize (((w.alloc (.cells #[.int .u8 (m.kind : Int), .int .i64 m.frm, .int .i64 m.to_, .int .i64 m.req, .string (str m.key), .int .i64 m.ver, .int .i64 m.inc, .int .i64 m.size, .int .i64 m.code, .int .i64 m.node, .bool m.back, .slice s.ia m.ids.length s.ic, .slice s.na m.nodes.length s.nc, .slice s.da m.data.length s.dk] 27)).alloc (.cells #[.int .u8 0, .int .i64 0, .int .i64 0, .int .i64 0, .string { data := #[] }, .int .i64 0, .int .i64 0, .int .i64 0, .int .i64 0, .int .i64 0, .bool false, .slice none 0 0, .slice none 0 0, .slice none 0 0] 27)).alloc (.cells #[.int .u8 (m.kind : Int), .int .i64 m.frm, .int .i64 m.to_, .int .i64 0, .string { data := #[] }, .int .i64 0, .int .i64 0, .int .i64 0, .int .i64 0, .int .i64 0, .bool false, .slice none 0 0, .slice none 0 0, .slice none 0 0] 27)) = w1 at *
  refine (fieldsOf_any w1 m.kind).mono ?_
  rintro e w2 ⟨rfl, hw2⟩
  have HS2 := Lib.hid (show w2.heap.size = w.heap.size + 4 by rw [← hw2, World.size_alloc, HS1.out])
  have HC := Lib.hid (show w2.cell? ⟨w.heap.size + 3, 0, none⟩ = some (.int .u8 (m.kind : Int)) by rw [← hw2, ← HS1.out]; rw [new_cell]; rfl)
  have HI2 := Lib.hid (show BareI w m s [] w2 by rw [← hw2]; exact HI.out.fr (S := fun _ => False) (Fr.quiet (nextA (Mem.start w1) _)) (fun k h => h.elim))
  have HT2 := Lib.hid (HT.out.keep HI2.out.1)
  rw [HS1.out]
  clear hw2
  go_wp2_with fail
  refine (wpIn_wide (n := 5)).1 ?_
  refine wpIn_rangeT (gf := 57) (lb := #[.pointer (some ⟨w.heap.size + 3, 0, none⟩)]) (encs := fun f : Nat => #[.int .u16 (bit f)]) rfl (enters_of Tryd.func57 (by kernel_rfl) rfl) (fun _ => rfl)
    (fun pre W' => BareI w m s pre W') (fun _ _ _ => False) (fun pre x W1 => Nxt m.kind pre x) (fun k => k = w.heap.size + 2) (S := fun xs => xs = flds m.kind) (Sp := fun _ => False) ?hsb
    (fields_callT w2 (w.heap.size + 3) m.kind HK.out _ _ _ HT2.out ⟨by omega, by omega⟩ HC.out (fun _ _ _ h => h))
    ?hI ?hIx ?hLX ?h0 ?round ?done ?stop
  case hsb => rw [HS2.out]; exact ⟨by omega, by omega⟩
  case hI =>
    intro pre W1 W2 h hf
    rw [HS2.out] at hf
    exact h.fr hf (fun k h => by omega)
  case hIx => exact fun _ _ _ _ h => h.elim
  case hLX => exact fun pre x W1 W2 h hf => h
  case h0 =>
    intro W1 hb _
    exact HI2.out.fr (S := fun _ => False) (Fr.quiet hb) (fun k h => h.elim)
  case round =>
    rintro lp pre x W1 hI1 hx1
    gi_wp2
    refine ⟨trivial, ?_⟩
    clear hI1 hx1
    rintro W2 hI2 ⟨hx, _⟩
    have HI3 := Lib.hid hI2
    obtain ⟨_, hm0, _, hm2⟩ := hI2
    have hx2 : x = 0 ∨ x = 1 ∨ x = 2 ∨ x = 3 ∨ x = 4 ∨ x = 5 ∨ x = 6 ∨ x = 7 ∨ x = 8 ∨ x = 9 ∨ x = 10 := by omega
    clear hx
    rcases hx2 with rfl | rfl | rfl | rfl | rfl | rfl | rfl | rfl | rfl | rfl | rfl
    · have hc := hm0.cell 3
      have hc2 := hm2.cell 3
      have hz : W2.frozen? ⟨w.heap.size + 1 + 1, 3, none⟩ = false := hm2.frozen 3
      simp [mv] at hc hc2
      rw [show w.heap.size + 2 = w.heap.size + 1 + 1 from rfl] at hc2
      rw [show bit 0 = 1 from rfl]
      clear hm0 hm2
      gi_wp2
      have hf : Fr (fun k => k = w.heap.size + 2) W2 (W2.setCell ⟨w.heap.size + 1 + 1, 3, none⟩ (.int .i64 m.req)) := Fr.setCell (S := fun k => k = w.heap.size + 2) (w' := W2) (Fr.refl _ W2) (p := ⟨w.heap.size + 1 + 1, 3, none⟩) (fun _ => rfl) _
      refine ⟨hf, HI3.out.1.trans (hf.below HI3.out.1.size fun k hk => by omega), HI3.out.2.1.fr hf (by omega), ?_, ?_⟩
      · exact HI3.out.2.2.1.fr hf (by omega)
      · have := HI3.out.2.2.2.set_ 3 (.int .i64 m.req)
        rw [keep_snoc0]; exact this
    · have hc := hm0.cell 4
      have hc2 := hm2.cell 4
      have hz : W2.frozen? ⟨w.heap.size + 1 + 1, 4, none⟩ = false := hm2.frozen 4
      simp [mv] at hc hc2
      rw [show w.heap.size + 2 = w.heap.size + 1 + 1 from rfl] at hc2
      rw [show bit 1 = 2 from rfl]
      clear hm0 hm2
      gi_wp2
      have hf : Fr (fun k => k = w.heap.size + 2) W2 (W2.setCell ⟨w.heap.size + 1 + 1, 4, none⟩ (.string (str m.key))) := Fr.setCell (S := fun k => k = w.heap.size + 2) (w' := W2) (Fr.refl _ W2) (p := ⟨w.heap.size + 1 + 1, 4, none⟩) (fun _ => rfl) _
      refine ⟨hf, HI3.out.1.trans (hf.below HI3.out.1.size fun k hk => by omega), HI3.out.2.1.fr hf (by omega), ?_, ?_⟩
      · exact HI3.out.2.2.1.fr hf (by omega)
      · have := HI3.out.2.2.2.set_ 4 (.string (str m.key))
        rw [keep_snoc1]; exact this
    · have hc := hm0.cell 5
      have hc2 := hm2.cell 5
      have hz : W2.frozen? ⟨w.heap.size + 1 + 1, 5, none⟩ = false := hm2.frozen 5
      simp [mv] at hc hc2
      rw [show w.heap.size + 2 = w.heap.size + 1 + 1 from rfl] at hc2
      rw [show bit 2 = 4 from rfl]
      clear hm0 hm2
      gi_wp2
      have hf : Fr (fun k => k = w.heap.size + 2) W2 (W2.setCell ⟨w.heap.size + 1 + 1, 5, none⟩ (.int .i64 m.ver)) := Fr.setCell (S := fun k => k = w.heap.size + 2) (w' := W2) (Fr.refl _ W2) (p := ⟨w.heap.size + 1 + 1, 5, none⟩) (fun _ => rfl) _
      refine ⟨hf, HI3.out.1.trans (hf.below HI3.out.1.size fun k hk => by omega), HI3.out.2.1.fr hf (by omega), ?_, ?_⟩
      · exact HI3.out.2.2.1.fr hf (by omega)
      · have := HI3.out.2.2.2.set_ 5 (.int .i64 m.ver)
        rw [keep_snoc2]; exact this
    · have hc := hm0.cell 6
      have hc2 := hm2.cell 6
      have hz : W2.frozen? ⟨w.heap.size + 1 + 1, 6, none⟩ = false := hm2.frozen 6
      simp [mv] at hc hc2
      rw [show w.heap.size + 2 = w.heap.size + 1 + 1 from rfl] at hc2
      rw [show bit 3 = 8 from rfl]
      clear hm0 hm2
      gi_wp2
      have hf : Fr (fun k => k = w.heap.size + 2) W2 (W2.setCell ⟨w.heap.size + 1 + 1, 6, none⟩ (.int .i64 m.inc)) := Fr.setCell (S := fun k => k = w.heap.size + 2) (w' := W2) (Fr.refl _ W2) (p := ⟨w.heap.size + 1 + 1, 6, none⟩) (fun _ => rfl) _
      refine ⟨hf, HI3.out.1.trans (hf.below HI3.out.1.size fun k hk => by omega), HI3.out.2.1.fr hf (by omega), ?_, ?_⟩
      · exact HI3.out.2.2.1.fr hf (by omega)
      · have := HI3.out.2.2.2.set_ 6 (.int .i64 m.inc)
        rw [keep_snoc3]; exact this
    · have hc := hm0.cell 7
      have hc2 := hm2.cell 7
      have hz : W2.frozen? ⟨w.heap.size + 1 + 1, 7, none⟩ = false := hm2.frozen 7
      simp [mv] at hc hc2
      rw [show w.heap.size + 2 = w.heap.size + 1 + 1 from rfl] at hc2
      rw [show bit 4 = 16 from rfl]
      clear hm0 hm2
      gi_wp2
      have hf : Fr (fun k => k = w.heap.size + 2) W2 (W2.setCell ⟨w.heap.size + 1 + 1, 7, none⟩ (.int .i64 m.size)) := Fr.setCell (S := fun k => k = w.heap.size + 2) (w' := W2) (Fr.refl _ W2) (p := ⟨w.heap.size + 1 + 1, 7, none⟩) (fun _ => rfl) _
      refine ⟨hf, HI3.out.1.trans (hf.below HI3.out.1.size fun k hk => by omega), HI3.out.2.1.fr hf (by omega), ?_, ?_⟩
      · exact HI3.out.2.2.1.fr hf (by omega)
      · have := HI3.out.2.2.2.set_ 7 (.int .i64 m.size)
        rw [keep_snoc4]; exact this
    · have hc := hm0.cell 8
      have hc2 := hm2.cell 8
      have hz : W2.frozen? ⟨w.heap.size + 1 + 1, 8, none⟩ = false := hm2.frozen 8
      simp [mv] at hc hc2
      rw [show w.heap.size + 2 = w.heap.size + 1 + 1 from rfl] at hc2
      rw [show bit 5 = 32 from rfl]
      clear hm0 hm2
      gi_wp2
      have hf : Fr (fun k => k = w.heap.size + 2) W2 (W2.setCell ⟨w.heap.size + 1 + 1, 8, none⟩ (.int .i64 m.code)) := Fr.setCell (S := fun k => k = w.heap.size + 2) (w' := W2) (Fr.refl _ W2) (p := ⟨w.heap.size + 1 + 1, 8, none⟩) (fun _ => rfl) _
      refine ⟨hf, HI3.out.1.trans (hf.below HI3.out.1.size fun k hk => by omega), HI3.out.2.1.fr hf (by omega), ?_, ?_⟩
      · exact HI3.out.2.2.1.fr hf (by omega)
      · have := HI3.out.2.2.2.set_ 8 (.int .i64 m.code)
        rw [keep_snoc5]; exact this
    · have hc := hm0.cell 9
      have hc2 := hm2.cell 9
      have hz : W2.frozen? ⟨w.heap.size + 1 + 1, 9, none⟩ = false := hm2.frozen 9
      simp [mv] at hc hc2
      rw [show w.heap.size + 2 = w.heap.size + 1 + 1 from rfl] at hc2
      rw [show bit 6 = 64 from rfl]
      clear hm0 hm2
      gi_wp2
      have hf : Fr (fun k => k = w.heap.size + 2) W2 (W2.setCell ⟨w.heap.size + 1 + 1, 9, none⟩ (.int .i64 m.node)) := Fr.setCell (S := fun k => k = w.heap.size + 2) (w' := W2) (Fr.refl _ W2) (p := ⟨w.heap.size + 1 + 1, 9, none⟩) (fun _ => rfl) _
      refine ⟨hf, HI3.out.1.trans (hf.below HI3.out.1.size fun k hk => by omega), HI3.out.2.1.fr hf (by omega), ?_, ?_⟩
      · exact HI3.out.2.2.1.fr hf (by omega)
      · have := HI3.out.2.2.2.set_ 9 (.int .i64 m.node)
        rw [keep_snoc6]; exact this
    · have hc := hm0.cell 10
      have hc2 := hm2.cell 10
      have hz : W2.frozen? ⟨w.heap.size + 1 + 1, 10, none⟩ = false := hm2.frozen 10
      simp [mv] at hc hc2
      rw [show w.heap.size + 2 = w.heap.size + 1 + 1 from rfl] at hc2
      rw [show bit 7 = 128 from rfl]
      clear hm0 hm2
      gi_wp2
      have hf : Fr (fun k => k = w.heap.size + 2) W2 (W2.setCell ⟨w.heap.size + 1 + 1, 10, none⟩ (.bool m.back)) := Fr.setCell (S := fun k => k = w.heap.size + 2) (w' := W2) (Fr.refl _ W2) (p := ⟨w.heap.size + 1 + 1, 10, none⟩) (fun _ => rfl) _
      refine ⟨hf, HI3.out.1.trans (hf.below HI3.out.1.size fun k hk => by omega), HI3.out.2.1.fr hf (by omega), ?_, ?_⟩
      · exact HI3.out.2.2.1.fr hf (by omega)
      · have := HI3.out.2.2.2.set_ 10 (.bool m.back)
        rw [keep_snoc7]; exact this
    · have hc := hm0.cell 11
      have hc2 := hm2.cell 11
      have hz : W2.frozen? ⟨w.heap.size + 1 + 1, 11, none⟩ = false := hm2.frozen 11
      simp [mv] at hc hc2
      rw [show w.heap.size + 2 = w.heap.size + 1 + 1 from rfl] at hc2
      rw [show bit 8 = 256 from rfl]
      clear hm0 hm2
      gi_wp2
      have hf : Fr (fun k => k = w.heap.size + 2) W2 (W2.setCell ⟨w.heap.size + 1 + 1, 11, none⟩ (.slice s.ia m.ids.length s.ic)) := Fr.setCell (S := fun k => k = w.heap.size + 2) (w' := W2) (Fr.refl _ W2) (p := ⟨w.heap.size + 1 + 1, 11, none⟩) (fun _ => rfl) _
      refine ⟨hf, HI3.out.1.trans (hf.below HI3.out.1.size fun k hk => by omega), HI3.out.2.1.fr hf (by omega), ?_, ?_⟩
      · exact HI3.out.2.2.1.fr hf (by omega)
      · have := HI3.out.2.2.2.set_ 11 (.slice s.ia m.ids.length s.ic)
        rw [keep_snoc8]; exact this
    · have hc := hm0.cell 12
      have hc2 := hm2.cell 12
      have hz : W2.frozen? ⟨w.heap.size + 1 + 1, 12, none⟩ = false := hm2.frozen 12
      simp [mv] at hc hc2
      rw [show w.heap.size + 2 = w.heap.size + 1 + 1 from rfl] at hc2
      rw [show bit 9 = 512 from rfl]
      clear hm0 hm2
      gi_wp2
      have hf : Fr (fun k => k = w.heap.size + 2) W2 (W2.setCell ⟨w.heap.size + 1 + 1, 12, none⟩ (.slice s.na m.nodes.length s.nc)) := Fr.setCell (S := fun k => k = w.heap.size + 2) (w' := W2) (Fr.refl _ W2) (p := ⟨w.heap.size + 1 + 1, 12, none⟩) (fun _ => rfl) _
      refine ⟨hf, HI3.out.1.trans (hf.below HI3.out.1.size fun k hk => by omega), HI3.out.2.1.fr hf (by omega), ?_, ?_⟩
      · exact HI3.out.2.2.1.fr hf (by omega)
      · have := HI3.out.2.2.2.set_ 12 (.slice s.na m.nodes.length s.nc)
        rw [keep_snoc9]; exact this
    · have hc := hm0.cell 13
      have hc2 := hm2.cell 13
      have hz : W2.frozen? ⟨w.heap.size + 1 + 1, 13, none⟩ = false := hm2.frozen 13
      simp [mv] at hc hc2
      rw [show w.heap.size + 2 = w.heap.size + 1 + 1 from rfl] at hc2
      rw [show bit 10 = 1024 from rfl]
      clear hm0 hm2
      gi_wp2
      have hf : Fr (fun k => k = w.heap.size + 2) W2 (W2.setCell ⟨w.heap.size + 1 + 1, 13, none⟩ (.slice s.da m.data.length s.dk)) := Fr.setCell (S := fun k => k = w.heap.size + 2) (w' := W2) (Fr.refl _ W2) (p := ⟨w.heap.size + 1 + 1, 13, none⟩) (fun _ => rfl) _
      refine ⟨hf, HI3.out.1.trans (hf.below HI3.out.1.size fun k hk => by omega), HI3.out.2.1.fr hf (by omega), ?_, ?_⟩
      · exact HI3.out.2.2.1.fr hf (by omega)
      · have := HI3.out.2.2.2.set_ 13 (.slice s.da m.data.length s.dk)
        rw [keep_snoc10]; exact this
  case done =>
    rintro D xs W hD rfl hI5 hK
    rw [HS2.out] at hD
    have HD := Lib.hid (And.intro hD (And.intro hK hI5))
    clear hD hK hI5
    go_wp2_with ((with_reducible show wpList _ _ _ ((⟨some 72, _, _, _, _, _⟩ : Oper) :: _) _ _); refine wpList_load_mid rfl 27 (.tmp 3) rfl (w.heap.size + 1 + 1) 0 rfl (mv (keep m (flds m.kind)) (keepS s (flds m.kind))).toList _ (range_of HD.out.2.2.2.2.2) Tryd.underlying27 rfl minfo ?_; refine wpList_store_mid rfl 27 (.tmp 2) (.tmp 72) rfl (w.heap.size + 1) 0 (mv (keep m (flds m.kind)) (keepS s (flds m.kind))) rfl rfl (there_of HD.out.2.2.2.2.1) minfo (mv_one _ _) ?_)
    have hB := set14 HD.out.2.2.2.2.1 (keep m (flds m.kind)) (keepS s (flds m.kind))
    have hF := set14_fr W (w.heap.size + 1) (keep m (flds m.kind)) (keepS s (flds m.kind))
    obtain ⟨W2, hW2⟩ : ∃ x, W.setCells (w.heap.size + 1) 0 (mv (keep m (flds m.kind)) (keepS s (flds m.kind))).toList = x := ⟨_, rfl⟩
    rw [hW2] at hB hF ⊢
    have HB := Lib.hid (And.intro hB hF)
    clear hB hF hW2
    have hKD : W2.heap[D]? = some (.deferred (some [])) := (HB.out.2.block D (Array.getElem?_eq_some_iff.1 HD.out.2.1).1 (by have := HD.out.1; omega)).trans HD.out.2.1
    refine ⟨by simp, .inl ⟨_, _, rfl, run_takeDeferred hKD, ?_⟩⟩
    have hfs : Fr (fun k => k = D) W2 (W2.putObj D (.deferred none)) := put_fr _
    have hB2 := HB.out.1.fr hfs (by have := HD.out.1; omega)
    refine ⟨.agg (mv (keep m (flds m.kind)) (keepS s (flds m.kind))), ?_, rfl, ?_⟩
    · have e0 := hB2.cell 0
      have e1 := hB2.cell 1
      have e2 := hB2.cell 2
      have e3 := hB2.cell 3
      have e4 := hB2.cell 4
      have e5 := hB2.cell 5
      have e6 := hB2.cell 6
      have e7 := hB2.cell 7
      have e8 := hB2.cell 8
      have e9 := hB2.cell 9
      have e10 := hB2.cell 10
      have e11 := hB2.cell 11
      have e12 := hB2.cell 12
      have e13 := hB2.cell 13
      simp [mv] at e0 e1 e2 e3 e4 e5 e6 e7 e8 e9 e10 e11 e12 e13
      simp [results, Tryd.results48, go_sem, e0, e1, e2, e3, e4, e5, e6, e7, e8, e9, e10, e11, e12, e13]
      rfl
    · exact (HD.out.2.2.1.trans (HB.out.2.below HD.out.2.2.1.size fun k hk => by omega)).trans (hfs.below (by have := HD.out.2.2.1.size; have := HB.out.2.size; omega) fun k hk => by have := HD.out.1; omega)
  case stop => exact fun _ _ _ _ _ h => h.elim
end Go.Proofs.YtebdmfmadbikaaaDoor.WiW
