/- For reduce: the state of its loops. -/
import Derived.Test.YthdapoipfnnaeaaMxMul
import Derived.Test.YthdapoipfnnaeaaMxRed
namespace Go.Proofs.Ythdapoipfnnaeaa.MxW
open Go.RowKit Go.Shelf Mem Gf FdW Mx Rng
open PlW (In)
set_option linter.unusedVariables false

/-- A matrix of the caller's that is written. -/
def Wo (w : World) (X : Option Addr) (cap r c : Nat) (m : M) : Prop := Mem.Own w 0 5 X cap ((flat r c m).map u8v)
section
variable {w w' : World} {X : Option Addr} {cap r c : Nat} {m m' : M}
theorem Wo.some (h : Wo w X cap r c m) (hr : 0 < r) (hc : 0 < c) : ∃ g, X = some ⟨g, 0, none⟩ ∧ Wm w 0 g cap r c m := by
  rcases Own.form h with ⟨_, _, e⟩ | ⟨g, rfl, _⟩
  · have := congrArg List.length e
    rw [List.length_map, flat_len] at this
    have h2 := idx_lt (i := 0) (k := 0) hr hc
    simp at this; omega
  · exact ⟨g, rfl, h⟩
theorem Wo.fr {S : Nat → Prop} (h : Wo w X cap r c m) (hf : Fr S w w') (hg : ∀ g, X = Option.some ⟨g, 0, none⟩ → ¬ S g) : Wo w' X cap r c m := Own.fr h hf hg
theorem Wo.keep (h : Wo w X cap r c m) (hb : Below w.heap.size w w') : Wo w' X cap r c m := Own.keep h hb
theorem Wo.congr (h : Wo w X cap r c m) (hm : ∀ i, i < r → ∀ k, k < c → m i k = m' i k) : Wo w X cap r c m' := by unfold Wo; rw [← flat_congr hm]; exact h
theorem Wo.le (h : Wo w X cap r c m) : r * c ≤ cap := by have := Own.le h; rwa [List.length_map, flat_len] at this
end
/-- Where it lies. -/
def Bk (X : Option Addr) (k : Nat) : Prop := X = some ⟨k, 0, none⟩
/-- What reduce may turn. -/
def RS' (XA XB : Option Addr) (p : Nat) (k : Nat) : Prop := Bk XA k ∨ Bk XB k ∨ k = p
/-- While a matrix is reduced. -/
structure RedI (w : World) (p gf gA gB gt : Nat) (XA XB : Option Addr) (capA capB r c d : Nat) (W : World) (at_ : Nat) (A B : M) : Prop where
  fr : Fr (RS' XA XB p) w W
  fld : Fld W p
  ff : Blk W gf 24 (fcellv p)
  ma : Blk W gA 27 (mcells r c XA (r * c) capA)
  mb : Blk W gB 27 (mcells r d XB (r * d) capB)
  mt : Blk W gt 3 #[.int .i64 (at_ : Int)]
  ra : Wo W XA capA r c A
  rb : Wo W XB capB r d B
/-- Where the blocks lie. -/
structure RedN (w : World) (p gf gA gB gt : Nat) (XA XB : Option Addr) : Prop where
  np : p < w.heap.size
  na : ∀ k, Bk XA k → k < w.heap.size ∧ k ≠ p
  nb : ∀ k, Bk XB k → k < w.heap.size ∧ k ≠ p
  nab : ∀ k, Bk XA k → ¬ Bk XB k
  n1 : w.heap.size = gf
  n2 : gA = gf + 1
  n3 : gB = gf + 1 + 1
  n4 : gt = gf + 1 + 1 + 1
section
variable {w W W' : World} {p gf gA gB gt : Nat} {XA XB : Option Addr} {capA capB r c d at_ : Nat} {A B A' B' : M}
theorem RedN.rs (h : RedN w p gf gA gB gt XA XB) {k : Nat} (hk : RS' XA XB p k) : k < w.heap.size := by
  rcases hk with hk | hk | hk
  · exact (h.na k hk).1
  · exact (h.nb k hk).1
  · rw [hk]; exact h.np
/-- New blocks of the call's own are turned, the boxes stay. -/
theorem RedI.own {S : Nat → Prop} (h : RedI w p gf gA gB gt XA XB capA capB r c d W at_ A B) (hn : RedN w p gf gA gB gt XA XB) (hf : Fr S W W') (hS : ∀ k, S k → gt < k) : RedI w p gf gA gB gt XA XB capA capB r c d W' at_ A B := by
  have hlt : ∀ k, k < w.heap.size → ¬ S k := fun k hk hs => by
    have h1 := hS k hs
    have h2 := hn.n1; have h3 := hn.n4
    omega
  have hg : ∀ k, k ≤ gt → ¬ S k := fun k hk hs => by have h1 := hS k hs; omega
  have h3 := hn.n2; have h4 := hn.n3; have h5 := hn.n4
  exact ⟨h.fr.trans hf fun k hk hs => absurd hs (hlt k hk), h.fld.fr hf (hlt p hn.np), h.ff.fr hf (hg _ (by omega)), h.ma.fr hf (hg _ (by omega)), h.mb.fr hf (hg _ (by omega)), h.mt.fr hf (hg _ (Nat.le_refl _)), h.ra.fr hf fun g e => hlt g (hn.na g e).1, h.rb.fr hf fun g e => hlt g (hn.nb g e).1⟩
theorem RedI.keep (h : RedI w p gf gA gB gt XA XB capA capB r c d W at_ A B) (hb : Below W.heap.size W W') : RedI w p gf gA gB gt XA XB capA capB r c d W' at_ A B :=
  ⟨h.fr.trans (Fr.quiet (S := fun _ => False) hb) fun _ _ h => h.elim, h.fld.keep hb, h.ff.keep hb, h.ma.keep hb, h.mb.keep hb, h.mt.keep hb, h.ra.keep hb, h.rb.keep hb⟩
/-- The blocks of the two matrices and the field are turned. -/
theorem RedI.turn {S : Nat → Prop} (h : RedI w p gf gA gB gt XA XB capA capB r c d W at_ A B) (hn : RedN w p gf gA gB gt XA XB) (hf : Fr S W W') (hS : ∀ k, S k → RS' XA XB p k) (hF : Fld W' p) (ha : Wo W' XA capA r c A') (hb : Wo W' XB capB r d B') : RedI w p gf gA gB gt XA XB capA capB r c d W' at_ A' B' := by
  have hg : ∀ k, gf ≤ k → ¬ S k := fun k hk hs => by have h1 := hn.rs (hS k hs); have h2 := hn.n1; omega
  have h3 := hn.n2; have h4 := hn.n3; have h5 := hn.n4
  exact ⟨h.fr.trans hf fun k _ hs => hS k hs, hF, h.ff.fr hf (hg _ (Nat.le_refl _)), h.ma.fr hf (hg _ (by omega)), h.mb.fr hf (hg _ (by omega)), h.mt.fr hf (hg _ (by omega)), ha, hb⟩
theorem RedI.field (h : RedI w p gf gA gB gt XA XB capA capB r c d W at_ A B) (hn : RedN w p gf gA gB gt XA XB) (hf : Fr (fun k => k = p) W W') (hF : Fld W' p) : RedI w p gf gA gB gt XA XB capA capB r c d W' at_ A B :=
  h.turn hn hf (fun k e => .inr (.inr e)) hF (h.ra.fr hf fun g e e2 => (hn.na g e).2 e2) (h.rb.fr hf fun g e e2 => (hn.nb g e).2 e2)
theorem RedI.congr (h : RedI w p gf gA gB gt XA XB capA capB r c d W at_ A B) (hA : ∀ i, i < r → ∀ k, k < c → A i k = A' i k) (hB : ∀ i, i < r → ∀ k, k < d → B i k = B' i k) : RedI w p gf gA gB gt XA XB capA capB r c d W at_ A' B' :=
  ⟨h.fr, h.fld, h.ff, h.ma, h.mb, h.mt, h.ra.congr hA, h.rb.congr hB⟩
/-- One entry of the first matrix; of the second one. -/
theorem RedI.setA {g : Nat} (hX : XA = some ⟨g, 0, none⟩) (h : RedI w p gf gA gB gt XA XB capA capB r c d W at_ A B) (hn : RedN w p gf gA gB gt XA XB) {i k : Nat} (hi : i < r) (hk : k < c) (x : UInt8) :
    RedI w p gf gA gB gt XA XB capA capB r c d (W.setCell ⟨g, i * c + k, none⟩ (.int .u8 (x.toNat : Int))) at_ (upd A i k x) B := by
  have hf := setF (p := g) W ⟨g, i * c + k, none⟩ rfl (.int .u8 (x.toNat : Int))
  have ha := h.ra
  subst hX
  have hw : Wm W 0 g capA r c A := ha
  exact h.turn hn hf (fun k e => .inl (by rw [e]; rfl)) (h.fld.fr hf fun e => (hn.na g rfl).2 e.symm) (hw.set hi hk x) (h.rb.fr hf fun g' e e2 => hn.nab g rfl (by rw [← e2]; exact e))
theorem RedI.setB {g : Nat} (hX : XB = some ⟨g, 0, none⟩) (h : RedI w p gf gA gB gt XA XB capA capB r c d W at_ A B) (hn : RedN w p gf gA gB gt XA XB) {i k : Nat} (hi : i < r) (hk : k < d) (x : UInt8) :
    RedI w p gf gA gB gt XA XB capA capB r c d (W.setCell ⟨g, i * d + k, none⟩ (.int .u8 (x.toNat : Int))) at_ A (upd B i k x) := by
  have hf := setF (p := g) W ⟨g, i * d + k, none⟩ rfl (.int .u8 (x.toNat : Int))
  have hb := h.rb
  subst hX
  have hw : Wm W 0 g capB r d B := hb
  exact h.turn hn hf (fun k e => .inr (.inl (by rw [e]; rfl))) (h.fld.fr hf fun e => (hn.nb g rfl).2 e.symm) (h.ra.fr hf fun g' e e2 => hn.nab g' e (by rw [e2]; rfl)) (hw.set hi hk x)
theorem RedI.atA {g : Nat} (hX : XA = some ⟨g, 0, none⟩) (h : RedI w p gf gA gB gt XA XB capA capB r c d W at_ A B) {i k : Nat} (hi : i < r) (hk : k < c) : W.cell? ⟨g, i * c + k, none⟩ = some (.int .u8 ((A i k).toNat : Int)) ∧ W.frozen? ⟨g, i * c + k, none⟩ = false := by
  have ha := h.ra
  subst hX
  exact Wm.at_ ha hi hk
theorem RedI.atB {g : Nat} (hX : XB = some ⟨g, 0, none⟩) (h : RedI w p gf gA gB gt XA XB capA capB r c d W at_ A B) {i k : Nat} (hi : i < r) (hk : k < d) : W.cell? ⟨g, i * d + k, none⟩ = some (.int .u8 ((B i k).toNat : Int)) ∧ W.frozen? ⟨g, i * d + k, none⟩ = false := by
  have hb := h.rb
  subst hX
  exact Wm.at_ hb hi hk
end
/-- What reduce leaves. -/
def RedOk (w : World) (p : Nat) (XA XB : Option Addr) (capA capB r c d : Nat) (A B : M) (e : Ending) (w' : World) : Prop :=
  e = .returned (.int .i64 ((redTo r A B c).at_ : Int)) ∧ Wo w' XA capA r c (redTo r A B c).A ∧ Wo w' XB capB r d (redTo r A B c).B ∧ Fld w' p ∧ Fr (RS' XA XB p) w w'
/-- The loop over the columns: the column's variable gc, the marks Ds of the loops over rows. -/
structure RedW (w : World) (p gf gA gB gt : Nat) (XA XB : Option Addr) (capA capB r c d gc n : Nat) (Ds : List Nat) (W : World) (at_ : Nat) (A B : M) : Prop where
  inv : RedI w p gf gA gB gt XA XB capA capB r c d W at_ A B
  mc : Blk W gc 3 #[.int .i64 (n : Int)]
  gtc : gt < gc
  ds : ∀ D ∈ Ds, gt < D ∧ W.heap[D]? = some (.deferred (some []))
  nd : Ds.Nodup
section
variable {w W W' : World} {p gf gA gB gt : Nat} {XA XB : Option Addr} {capA capB r c d gc n : Nat} {Ds : List Nat} {at_ : Nat} {A B A' B' : M}
/-- Blocks that lie ahead are turned. -/
theorem RedW.turn {S : Nat → Prop} {a' : Nat} (h : RedW w p gf gA gB gt XA XB capA capB r c d gc n Ds W at_ A B) (hf : Fr S W W') (hS : ∀ k, S k → k ≤ gt) (hi : RedI w p gf gA gB gt XA XB capA capB r c d W' a' A' B') : RedW w p gf gA gB gt XA XB capA capB r c d gc n Ds W' a' A' B' :=
  ⟨hi, h.mc.fr hf (fun hs => by have := hS _ hs; have := h.gtc; omega), h.gtc, fun D hD => ⟨(h.ds D hD).1, (hf.block D (Array.getElem?_eq_some_iff.1 (h.ds D hD).2).1 (fun hs => by have := hS _ hs; have := (h.ds D hD).1; omega)).trans (h.ds D hD).2⟩, h.nd⟩
theorem RedW.keep (h : RedW w p gf gA gB gt XA XB capA capB r c d gc n Ds W at_ A B) (hb : Below W.heap.size W W') : RedW w p gf gA gB gt XA XB capA capB r c d gc n Ds W' at_ A B :=
  h.turn (Fr.quiet (S := fun _ => False) hb) (fun _ h => h.elim) (h.inv.keep hb)
theorem RedW.congr (h : RedW w p gf gA gB gt XA XB capA capB r c d gc n Ds W at_ A B) (hA : ∀ i, i < r → ∀ k, k < c → A i k = A' i k) (hB : ∀ i, i < r → ∀ k, k < d → B i k = B' i k) : RedW w p gf gA gB gt XA XB capA capB r c d gc n Ds W at_ A' B' :=
  ⟨h.inv.congr hA hB, h.mc, h.gtc, h.ds, h.nd⟩
theorem RedN.le (hn : RedN w p gf gA gB gt XA XB) {k : Nat} (hk : RS' XA XB p k) : k ≤ gt := by have h1 := hn.rs hk; have h2 := hn.n1; have h3 := hn.n4; omega
theorem RedW.field (h : RedW w p gf gA gB gt XA XB capA capB r c d gc n Ds W at_ A B) (hn : RedN w p gf gA gB gt XA XB) (hf : Fr (fun k => k = p) W W') (hF : Fld W' p) : RedW w p gf gA gB gt XA XB capA capB r c d gc n Ds W' at_ A B :=
  h.turn hf (fun k e => hn.le (.inr (.inr e))) (h.inv.field hn hf hF)
theorem RedW.setA {g : Nat} (hX : XA = some ⟨g, 0, none⟩) (h : RedW w p gf gA gB gt XA XB capA capB r c d gc n Ds W at_ A B) (hn : RedN w p gf gA gB gt XA XB) {i k : Nat} (hi : i < r) (hk : k < c) (x : UInt8) :
    RedW w p gf gA gB gt XA XB capA capB r c d gc n Ds (W.setCell ⟨g, i * c + k, none⟩ (.int .u8 (x.toNat : Int))) at_ (upd A i k x) B :=
  h.turn (setF (p := g) W ⟨g, i * c + k, none⟩ rfl _) (fun k e => hn.le (.inl (by rw [e]; exact hX))) (h.inv.setA hX hn hi hk x)
theorem RedW.setB {g : Nat} (hX : XB = some ⟨g, 0, none⟩) (h : RedW w p gf gA gB gt XA XB capA capB r c d gc n Ds W at_ A B) (hn : RedN w p gf gA gB gt XA XB) {i k : Nat} (hi : i < r) (hk : k < d) (x : UInt8) :
    RedW w p gf gA gB gt XA XB capA capB r c d gc n Ds (W.setCell ⟨g, i * d + k, none⟩ (.int .u8 (x.toNat : Int))) at_ A (upd B i k x) :=
  h.turn (setF (p := g) W ⟨g, i * d + k, none⟩ rfl _) (fun k e => hn.le (.inr (.inl (by rw [e]; exact hX)))) (h.inv.setB hX hn hi hk x)
/-- One row more. -/
theorem RedW.next (h : RedW w p gf gA gB gt XA XB capA capB r c d gc n Ds W at_ A B) (hn : RedN w p gf gA gB gt XA XB) : RedW w p gf gA gB gt XA XB capA capB r c d gc n Ds (W.setCell ⟨gt, 0, none⟩ (.int .i64 ((at_ : Int) + 1))) (at_ + 1) A B := by
  have hf := setF (p := gt) W ⟨gt, 0, none⟩ rfl (.int .i64 ((at_ : Int) + 1))
  have hlt : ∀ k, k < w.heap.size → k ≠ gt := fun k hk e => by have h2 := hn.n1; have h3 := hn.n4; omega
  have h1 := hn.n1; have h2 := hn.n2; have h3 := hn.n3; have h4 := hn.n4
  have hi := h.inv
  refine h.turn hf (fun k e => by omega) ⟨hi.fr.trans hf fun k hk e => absurd e (hlt k hk), hi.fld.fr hf (hlt p hn.np), hi.ff.fr hf (by omega), hi.ma.fr hf (by omega), hi.mb.fr hf (by omega), ?_, hi.ra.fr hf fun g e => hlt g (hn.na g e).1, hi.rb.fr hf fun g e => hlt g (hn.nb g e).1⟩
  have := hi.mt.set_ 0 (.int .i64 ((at_ : Int) + 1))
  rw [show ((at_ + 1 : Nat) : Int) = (at_ : Int) + 1 from by omega]
  exact this
/-- The next column, in a variable of its own. -/
theorem RedW.col (h : RedW w p gf gA gB gt XA XB capA capB r c d gc n Ds W at_ A B) (hn : RedN w p gf gA gB gt XA XB) : RedW w p gf gA gB gt XA XB capA capB r c d W.heap.size (n + 1) Ds (W.alloc (.cells #[.int .i64 ((n : Int) + 1)] 3)) at_ A B := by
  have hk := h.keep (nextA (Mem.start W) (.cells #[.int .i64 ((n : Int) + 1)] 3))
  have h1 := h.inv.mt.lt
  refine ⟨hk.inv, ?_, h1, hk.ds, hk.nd⟩
  rw [show ((n + 1 : Nat) : Int) = (n : Int) + 1 from by omega]
  exact Blk.new W _ _
/-- One mark more. -/
theorem RedW.mark (h : RedW w p gf gA gB gt XA XB capA capB r c d gc n Ds W at_ A B) {D : Nat} (hD : gt < D) (hK : W.heap[D]? = some (.deferred (some []))) (hnew : D ∉ Ds) : RedW w p gf gA gB gt XA XB capA capB r c d gc n (D :: Ds) W at_ A B :=
  ⟨h.inv, h.mc, h.gtc, fun D' hD' => by
    rcases List.mem_cons.1 hD' with rfl | h'
    · exact ⟨hD, hK⟩
    · exact h.ds D' h', List.nodup_cons.2 ⟨hnew, h.nd⟩⟩
theorem RedW.lt (h : RedW w p gf gA gB gt XA XB capA capB r c d gc n Ds W at_ A B) {D : Nat} (hD : W.heap.size ≤ D) : D ∉ Ds := fun h' => by
  have := (Array.getElem?_eq_some_iff.1 (h.ds D h').2).1
  omega
end
theorem red_start (w : World) (p gf : Nat) (hp : Fld w p) (hgf : w.heap.size = gf) (r c d ga : Nat) (XB : Option Addr) (capA capB : Nat) (A B : M) (hr : 0 < r) (hc : 0 < c) (hA : Wo w (some ⟨ga, 0, none⟩) capA r c A) (hB : Wo w XB capB r d B) (hne : p ≠ ga ∧ ¬ Bk XB p ∧ ¬ Bk XB ga) :
    RedN w p gf (gf + 1) (gf + 1 + 1) (gf + 1 + 1 + 1) (some ⟨ga, 0, none⟩) XB ∧ ∃ w0, RedW w p gf (gf + 1) (gf + 1 + 1) (gf + 1 + 1 + 1) (some ⟨ga, 0, none⟩) XB capA capB r c d (gf + 1 + 1 + 1 + 1) 0 [] w0 0 A B ∧
      ((((w.alloc (.cells #[fptr (some p)] 24)).alloc (.cells #[.int .i64 (r : Int), .int .i64 (c : Int), .slice (some ⟨ga, 0, none⟩) (r * c) capA] 27)).alloc (.cells #[.int .i64 (r : Int), .int .i64 (d : Int), .slice XB (r * d) capB] 27)).alloc (.cells #[.int .i64 0] 3)).alloc (.cells #[.int .i64 0] 3) = w0 := by
  have hn : RedN w p gf (gf + 1) (gf + 1 + 1) (gf + 1 + 1 + 1) (some ⟨ga, 0, none⟩) XB := by
    refine ⟨hp.lt, fun k e => ?_, fun k e => ?_, fun k e e2 => ?_, hgf, rfl, rfl, rfl⟩
    · have e1 : ga = k := by have e' : some (⟨ga, 0, none⟩ : Addr) = some ⟨k, 0, none⟩ := e
                             injection e' with e'; exact congrArg Addr.block e'
      subst e1
      obtain ⟨g, e3, h3⟩ := hA.some hr hc
      injection e3 with e3; have e4 := congrArg Addr.block e3; dsimp only at e4; subst e4
      exact ⟨h3.form.2.1, fun e => hne.1 e.symm⟩
    · rcases Own.form hB with ⟨e1, _⟩ | ⟨g, e1, _, h2, _⟩
      · have e' : XB = some ⟨k, 0, none⟩ := e
        rw [e1] at e'; cases e'
      · have e' : XB = some ⟨k, 0, none⟩ := e
        rw [e1] at e'; injection e' with e'; have e4 := congrArg Addr.block e'; dsimp only at e4; subst e4
        exact ⟨h2, fun e5 => hne.2.1 (by rw [← e5]; exact e)⟩
    · have e' : some (⟨ga, 0, none⟩ : Addr) = some ⟨k, 0, none⟩ := e
      injection e' with e'; have e4 := congrArg Addr.block e'; dsimp only at e4; subst e4
      exact hne.2.2 e2
  refine ⟨hn, ?_⟩
  obtain ⟨x1, g1, h1, e1, n1⟩ := boxedT w #[fptr (some p)] 24
  obtain ⟨x2, g2, h2, e2, n2⟩ := boxed x1 #[.int .i64 (r : Int), .int .i64 (c : Int), .slice (some ⟨ga, 0, none⟩) (r * c) capA]
  obtain ⟨x3, g3, h3, e3, n3⟩ := boxed x2 #[.int .i64 (r : Int), .int .i64 (d : Int), .slice XB (r * d) capB]
  obtain ⟨x4, g4, h4, e4, n4⟩ := boxedT x3 #[.int .i64 0] 3
  obtain ⟨x5, g5, h5, e5, n5⟩ := boxedT x4 #[.int .i64 0] 3
  have k1 := h1.2.2; have k2 := h2.2.2; have k3 := h3.2.2; have k4 := h4.2.2; have k5 := h5.2.2
  obtain rfl : g1 = gf := by omega
  obtain rfl : g2 = g1 + 1 := by omega
  obtain rfl : g3 = g1 + 1 + 1 := by omega
  obtain rfl : g4 = g1 + 1 + 1 + 1 := by omega
  obtain rfl : g5 = g1 + 1 + 1 + 1 + 1 := by omega
  have b2 := next h1.1 h2.1
  have b3 := next b2 h3.1
  have b4 := next b3 h4.1
  have b5 := next b4 h5.1
  refine ⟨x5, ⟨⟨Fr.quiet b5, hp.keep b5, (((h1.2.1.keep h2.1).keep h3.1).keep h4.1).keep h5.1, ((h2.2.1.keep h3.1).keep h4.1).keep h5.1, (h3.2.1.keep h4.1).keep h5.1, h4.2.1.keep h5.1, hA.keep b5, hB.keep b5⟩, h5.2.1, by omega, (fun _ h => by cases h), List.nodup_nil⟩, by rw [e1, e2, e3, e4, e5]⟩
/-- A column is done. -/
theorem redTo_yes {r n f : Nat} {A B : M} (hf : f < r) (h : find (redTo r A B n).A r n (redTo r A B n).at_ = f) : redTo r A B (n + 1) = ⟨(redTo r A B n).at_ + 1, stepX (redTo r A B n).A (redTo r A B n).A (redTo r A B n).at_ f n, stepX (redTo r A B n).A (redTo r A B n).B (redTo r A B n).at_ f n⟩ := by
  show redStep r n (redTo r A B n) = _
  unfold redStep
  rw [h, if_pos hf]
theorem redTo_no {r n : Nat} {A B : M} (h : find (redTo r A B n).A r n (redTo r A B n).at_ = r) : redTo r A B (n + 1) = redTo r A B n := by
  show redStep r n (redTo r A B n) = _
  unfold redStep
  rw [h, if_neg (Nat.lt_irrefl r)]
/-- Blocks are turned that are none of these. -/
theorem RedW.far {w W W' : World} {p gf gA gB gt : Nat} {XA XB : Option Addr} {capA capB r c d gc n : Nat} {Ds : List Nat} {at_ : Nat} {A B : M} {S : Nat → Prop} (h : RedW w p gf gA gB gt XA XB capA capB r c d gc n Ds W at_ A B) (hn : RedN w p gf gA gB gt XA XB) (hf : Fr S W W') (hS : ∀ k, S k → gt < k ∧ k ≠ gc ∧ k ∉ Ds) : RedW w p gf gA gB gt XA XB capA capB r c d gc n Ds W' at_ A B :=
  ⟨h.inv.own hn hf fun k hk => (hS k hk).1, h.mc.fr hf fun hs => (hS _ hs).2.1 rfl, h.gtc, fun D hD => ⟨(h.ds D hD).1, (hf.block D (Array.getElem?_eq_some_iff.1 (h.ds D hD).2).1 fun hs => (hS D hs).2.2 hD).trans (h.ds D hD).2⟩, h.nd⟩
/-- Behind more, on the first matrix; on the second one. -/
theorem RedW.moreA {w W W' : World} {p gf gA gB gt : Nat} {XA XB : Option Addr} {capA capB r c d gc n : Nat} {Ds : List Nat} {at_ : Nat} {A B A' : M} (h : RedW w p gf gA gB gt XA XB capA capB r c d gc n Ds W at_ A B) (hn : RedN w p gf gA gB gt XA XB) (hw : Wo W' XA capA r c A') (hF : Fld W' p) (hf : Fr (fun k => Bk XA k ∨ k = p) W W') : RedW w p gf gA gB gt XA XB capA capB r c d gc n Ds W' at_ A' B :=
  have hS : ∀ k, (Bk XA k ∨ k = p) → RS' XA XB p k := fun k hk => hk.elim .inl (fun e => .inr (.inr e))
  h.turn hf (fun k hk => hn.le (hS k hk)) (h.inv.turn hn hf hS hF hw (h.inv.rb.fr hf fun g e e2 => e2.elim (fun e2 => hn.nab g e2 e) (fun e2 => (hn.nb g e).2 e2)))
theorem RedW.moreB {w W W' : World} {p gf gA gB gt : Nat} {XA XB : Option Addr} {capA capB r c d gc n : Nat} {Ds : List Nat} {at_ : Nat} {A B B' : M} (h : RedW w p gf gA gB gt XA XB capA capB r c d gc n Ds W at_ A B) (hn : RedN w p gf gA gB gt XA XB) (hw : Wo W' XB capB r d B') (hF : Fld W' p) (hf : Fr (fun k => Bk XB k ∨ k = p) W W') : RedW w p gf gA gB gt XA XB capA capB r c d gc n Ds W' at_ A B' :=
  have hS : ∀ k, (Bk XB k ∨ k = p) → RS' XA XB p k := fun k hk => hk.elim (fun e => .inr (.inl e)) (fun e => .inr (.inr e))
  h.turn hf (fun k hk => hn.le (hS k hk)) (h.inv.turn hn hf hS hF (h.inv.ra.fr hf fun g e e2 => e2.elim (fun e2 => hn.nab g e e2) (fun e2 => (hn.na g e).2 e2)) hw)
def MoreO (w : World) (p : Nat) (X : Option Addr) (cap r c : Nat) (m : M) (e : Ending) (w' : World) : Prop := e = .returned (.tuple #[]) ∧ Wo w' X cap r c m ∧ Fld w' p ∧ Fr (fun k => Bk X k ∨ k = p) w w'
/-- A row of a matrix added to another row of it. -/
theorem more_own (w : World) (p : Nat) (hp : Fld w p) (X : Option Addr) (cap r c : Nat) (m : M) (hw : Wo w X cap r c m) (i j : Nat) (hi : i < r) (hj : j < r) (hij : j ≠ i) (hc9 : ((r * c : Nat) : Int) ≤ 1000000000) (hne : ∀ k, Bk X k → k ≠ p) (t : UInt8) :
    Calls Try.prog 48 #[fptr (some p), .slice (rowA X c i) c c, .slice (rowA X c j) c c, .int .u8 (t.toNat : Int)] w (MoreO w p X cap r c (addRow m i (m j) t)) := by
  by_cases hc : c = 0
  · subst hc
    refine (more_nil w _ _ _ _ _ t).mono ?_
    rintro e w' ⟨rfl, rfl⟩
    exact ⟨rfl, hw.congr fun _ _ k hk => absurd hk (by omega), hp, Fr.refl _ _⟩
  · obtain ⟨g, rfl, hm⟩ := hw.some (by omega) (show 0 < c by omega)
    have hpg : p ≠ g := fun e => hne g rfl e.symm
    refine (more_row w p hp 0 g cap r c m hm i hi hc9 hpg (rowA (some ⟨g, 0, none⟩) c j) c (m j) (fun hd => ⟨g, j * c, by rw [rowA_some hd, Nat.zero_add], ⟨fun k hk => (hm.at_ hj hk).1, .inr fun k k' hk hk' e => ?_, fun e => hpg e.symm, hm.form.2.1⟩⟩) t c).mono ?_
    · apply hij
      have e1 := congrArg (· / c) e
      simp only [idx_div hk, idx_div hk'] at e1
      exact e1
    · rintro e w' ⟨he, h1, h2, h3⟩
      exact ⟨he, h1, h2, h3.mono fun k _ hk => hk.elim (fun e => .inl (by rw [e]; rfl)) .inr⟩
theorem elim_more {A : M} {tf : Nat → UInt8} {t i r c : Nat} (hi : i ≠ t) : ∀ x, x < r → ∀ k, k < c → addRow (elimUp tf A t i) i (elimUp tf A t i t) (tf i) x k = elimUp tf A t (i + 1) x k := fun x _ k _ => by
  unfold addRow
  rw [elimUp_at, elimUp_ge tf A t (Nat.le_refl i)]
  by_cases h : x = i
  · subst h
    rw [if_pos rfl]
    unfold elimUp elim
    rw [if_pos (Nat.lt_succ_self x), if_neg hi]
  · rw [if_neg h]
    unfold elimUp
    by_cases h2 : x < i
    · rw [if_pos h2, if_pos (show x < i + 1 by omega)]
    · rw [if_neg h2, if_neg (show ¬ x < i + 1 by omega)]
/-- Rows t to fm - 1 are nought in column n. -/
def ZerosTo (A : M) (n t fm : Nat) : Prop := ∀ j, t ≤ j → j < fm → A j n = 0
theorem zeros_start (A : M) (n t : Nat) : ZerosTo A n t t := fun j h1 h2 => by omega
theorem zeros_next {A : M} {n t fm : Nat} (h : ZerosTo A n t fm) (h0 : A fm n = 0) : ZerosTo A n t (fm + 1) := fun j h1 h2 => by
  by_cases e : j = fm
  · rw [e]; exact h0
  · exact h j h1 (by omega)
theorem scaleUp_all (A : M) (a : Nat) (v : UInt8) {j k : Nat} (hk : k < j) (i : Nat) : scaleUp A a v j i k = scaleM A a v i k := by
  unfold scaleUp scaleM
  by_cases h : i = a
  · rw [if_pos ⟨h, hk⟩, if_pos h]
  · rw [if_neg (fun h' => h h'.1), if_neg h]
/-- The two matrices while both are dealt with, one behind the other. -/
def phA (A : M) (t fm n j : Nat) : M := if j = 0 then A else pivA A t fm n
def phB (A B : M) (t fm n j : Nat) : M := if j ≤ 1 then B else pivB A B t fm n
theorem RedW.old {w W : World} {p gf gA gB gt : Nat} {XA XB : Option Addr} {capA capB r c d gc n : Nat} {Ds : List Nat} {at_ : Nat} {A B : M} (hn : RedN w p gf gA gB gt XA XB) (h : RedW w p gf gA gB gt XA XB capA capB r c d gc n Ds W at_ A B) : gt < W.heap.size ∧ gc < W.heap.size := ⟨h.inv.mt.lt, h.mc.lt⟩
theorem marks_still {w W W' : World} {p gf gA gB gt : Nat} {XA XB : Option Addr} {capA capB r c d gc n : Nat} {Ds : List Nat} {at_ : Nat} {A B : M} (h : RedW w p gf gA gB gt XA XB capA capB r c d gc n Ds W at_ A B) (hf : Fr (fun k => k ∈ Ds) W W') : Still 0 W W' :=
  hf.mono fun k _ hk => ⟨Nat.zero_le _, _, (h.ds k hk).2, rfl⟩
/-- The function's end: its marks are shut. -/
theorem red_leave {w W : World} {p gf gA gB gt : Nat} {XA XB : Option Addr} {capA capB r c d gc n : Nat} {Ds : List Nat} {at_ : Nat} {MA MB A B : M} {fn : Func} {tmps : Array Value} {v : Value} (hn : RedN w p gf gA gB gt XA XB) (h : RedW w p gf gA gB gt XA XB capA capB r c d gc n Ds W at_ MA MB)
    (he : RedOk w p XA XB capA capB r c d A B (.returned v) W) (hr : ∀ W', (results fn tmps).run Try.prog W' = .ok v W') :
    LeavesInM Fence.wide 5 Try.prog fn tmps (RedOk w p XA XB capA capB r c d A B) (Ds.map mark) .returning W := by
  refine leaves_marks Ds W h.nd (fun D hD => (h.ds D hD).2) fun W' hf _ => ?_
  have hs := marks_still h hf
  have h1 := hn.n1
  have h4 := hn.n4
  refine ⟨v, hr W', he.1, hs.own he.2.1, hs.own he.2.2.1, he.2.2.2.1.fr hf (fun hp => by have := (h.ds p hp).1; have := hn.np; omega), he.2.2.2.2.trans hf fun k hk hD => by have := (h.ds k hD).1; omega⟩
end Go.Proofs.Ythdapoipfnnaeaa.MxW
