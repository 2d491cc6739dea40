/- Texts of a claim, one behind another. -/
import Derived.Test.YthdapoipfnnaeaaQLawMatrixMakes4
import Derived.Test.YthdapoipfnnaeaaRng2
import Derived.Test.YthdapoipfnnaeaaFdRef
import Derived.Laws.CopyRow
import Derived.Test.YthdapoipfnnaeaaOpenMx
/- Matrices as a law holds them: rows of bytes, boxes, perhaps a field; what each call leaves of them. -/
namespace Go.Proofs.Ythdapoipfnnaeaa.MxW
open Go.RowKit Go.Shelf Mem Gf FdW Mx Rng
open PlW (In)
set_option linter.unusedVariables false
set_option linter.unusedSectionVars false

structure Rw where
  A : Option Addr
  l : List UInt8
  c : Nat
/-- Since w0 nothing that was there has turned; these rows are there, these boxes of matrices, this field. -/
structure MS (w0 : World) (p : Option Nat) (R : List Rw) (X : List (Nat × Array Value)) (w : World) : Prop where
  below : Below w0.heap.size w0 w
  fld : ∀ q, p = some q → w0.heap.size ≤ q ∧ Fld w q
  row : ∀ r ∈ R, Bytes w w.heap.size r.A r.l ∧ (∀ q, p = some q → ∀ b o, r.A = some ⟨b, o, none⟩ → 0 < r.l.length → b ≠ q) ∧ r.l.length ≤ r.c
  box : ∀ x ∈ X, (∃ T, Blk w x.1 T x.2) ∧ ∀ q, p = some q → x.1 ≠ q
def MatR (w0 : World) (p : Option Nat) (R : List Rw) (X : List (Nat × Array Value)) (r c : Int) (n : Nat) (l : List UInt8) (e : Ending) (w' : World) : Prop :=
  ∃ A cap, e = .returned (.tuple #[.agg #[.int .i64 r, .int .i64 c, .slice A n cap], .int .i64 0]) ∧ MS w0 p (⟨A, l, cap⟩ :: R) X w'
def MatO (w0 : World) (p : Option Nat) (R : List Rw) (X : List (Nat × Array Value)) (r c : Int) (n : Nat) (l : List UInt8) (e : Ending) (w' : World) : Prop :=
  ∃ A cap, e = .returned (.agg #[.int .i64 r, .int .i64 c, .slice A n cap]) ∧ MS w0 p (⟨A, l, cap⟩ :: R) X w'
def BytR (w0 : World) (p : Option Nat) (R : List Rw) (X : List (Nat × Array Value)) (n : Nat) (l : List UInt8) (e : Ending) (w' : World) : Prop :=
  ∃ A cap, e = .returned (.tuple #[.slice A n cap, .int .i64 0]) ∧ MS w0 p (⟨A, l, cap⟩ :: R) X w'
def SayM (w0 : World) (p : Option Nat) (R : List Rw) (X : List (Nat × Array Value)) (v : Value) (e : Ending) (w' : World) : Prop := e = .returned v ∧ MS w0 p R X w'
section
variable {w0 w w' : World} {p : Option Nat} {R : List Rw} {X : List (Nat × Array Value)}
theorem MS.start (w : World) : MS w none [] [] w := ⟨Below.refl _ _, fun _ h => (by cases h), fun _ h => (List.not_mem_nil h).elim, fun _ h => (List.not_mem_nil h).elim⟩
theorem MS.keep (h : MS w0 p R X w) (hb : Below w.heap.size w w') : MS w0 p R X w' :=
  ⟨h.below.trans (hb.mono h.below.size), fun q e => ⟨(h.fld q e).1, (h.fld q e).2.keep hb⟩, fun r hr => ⟨((h.row r hr).1.below hb).up hb.size, (h.row r hr).2⟩, fun x hx => ⟨(h.box x hx).1.imp fun _ k => k.keep hb, (h.box x hx).2⟩⟩
theorem MS.in_ {q : Nat} (h : MS w0 (some q) R X w) {r : Rw} (hr : r ∈ R) : In w q r.A r.l := ⟨(h.row r hr).1, (h.row r hr).2.1 q rfl⟩
theorem MS.fr {q : Nat} (h : MS w0 (some q) R X w) (hF : Fld w' q) (hf : Fr (fun k => k = q) w w') : MS w0 (some q) R X w' :=
  ⟨h.below.trans (hf.below h.below.size fun k hk => by rw [hk]; exact (h.fld q rfl).1), fun q' e => (by injection e with e; subst e; exact ⟨(h.fld q rfl).1, hF⟩),
   fun r hr => ⟨((h.in_ hr).field hf).1, (h.row r hr).2⟩, fun x hx => ⟨(h.box x hx).1.imp fun _ k => k.fr hf ((h.box x hx).2 q rfl), (h.box x hx).2⟩⟩
theorem MS.arg (h : MS w0 none R X w) {A : Option Addr} {l : List UInt8} {c : Nat} (hb : Bytes w0 w0.heap.size A l) (hc : l.length ≤ c) : MS w0 none (⟨A, l, c⟩ :: R) X w :=
  ⟨h.below, h.fld, fun r hr => by
    rcases List.mem_cons.1 hr with rfl | hr
    · exact ⟨(hb.below h.below).up h.below.size, fun _ e => (by cases e), hc⟩
    · exact h.row r hr, h.box⟩
/-- A new row. -/
theorem MS.new (h : MS w0 p R X w) {w1 : World} {A : Option Addr} {l : List UInt8} {c : Nat} (hn : Nw w1.heap.size w A l) (hq : ∀ q, p = some q → q < w1.heap.size) (hc : l.length ≤ c) : MS w0 p (⟨A, l, c⟩ :: R) X w :=
  ⟨h.below, h.fld, fun r hr => by
    rcases List.mem_cons.1 hr with rfl | hr
    · exact ⟨hn.1, fun q e b o e2 hl => (by have := hn.2 b o e2 hl; have := hq q e; omega), hc⟩
    · exact h.row r hr, h.box⟩
theorem MS.lt (h : MS w0 p R X w) : ∀ q, p = some q → q < w.heap.size := fun q e => (h.fld q e).2.lt
theorem MS.nilR (h : MS w0 p R X w) : MS w0 p (⟨none, [], 0⟩ :: R) X w := h.new (w1 := w) ⟨Bytes.nil, fun _ _ e => by cases e⟩ h.lt (Nat.le_refl _)
/-- A box more. -/
theorem MS.putT (h : MS w0 p R X w) (cs : Array Value) (T : TypeId) : MS w0 p R ((w.heap.size, cs) :: X) (w.alloc (.cells cs T)) := by
  have k := h.keep (nextA (Mem.start w) (.cells cs T))
  exact ⟨k.below, k.fld, k.row, fun x hx => by
    rcases List.mem_cons.1 hx with rfl | hx
    · exact ⟨⟨T, Blk.new w _ _⟩, fun q e => by have := h.lt q e; dsimp only; omega⟩
    · exact k.box x hx⟩
theorem MS.put (h : MS w0 p R X w) (cs : Array Value) : MS w0 p R ((w.heap.size, cs) :: X) (w.alloc (.cells cs 27)) := h.putT cs _
theorem MS.lit (h : MS w0 p R X w) (cs : Array Value) (l : List UInt8) (hm : cs.size ≤ maxLen) (e : cs.toList = l.map u8v) (c : Nat) (hc : l.length ≤ c) : MS w0 p (⟨some ⟨w.heap.size, 0, none⟩, l, c⟩ :: R) X (w.alloc (.cells cs 5)) := by
  have ho := own_made w cs 5 hm (base := w.heap.size) (Nat.le_refl _)
  rw [e] at ho
  exact (h.keep (nextA (Mem.start w) _)).new (w1 := w) (Nw.of_own ho) h.lt hc
theorem MS.cells (h : MS w0 p R X w) {g : Nat} {c0 c1 c2 : Value} (hx : (g, #[c0, c1, c2]) ∈ X) : w.cell? ⟨g, 0, none⟩ = some c0 ∧ w.cell? ⟨g, 1, none⟩ = some c1 ∧ w.cell? ⟨g, 2, none⟩ = some c2 := by
  obtain ⟨T, hb⟩ := (h.box _ hx).1
  exact (cells3 hb).1
theorem MS.blk (h : MS w0 p R X w) {g : Nat} {c0 c1 c2 : Value} (hx : (g, #[c0, c1, c2]) ∈ X) : (w.cell? ⟨g, 0, none⟩ = some c0 ∧ w.cell? ⟨g, 1, none⟩ = some c1 ∧ w.cell? ⟨g, 2, none⟩ = some c2) ∧ w.frozen? ⟨g, 0, none⟩ = false ∧ w.frozen? ⟨g, 1, none⟩ = false ∧ w.frozen? ⟨g, 2, none⟩ = false := by
  obtain ⟨T, hb⟩ := (h.box _ hx).1
  exact cells3 hb
theorem MS.out (h : MS w0 none R X w) (hb : Below w.heap.size w w') (q : Nat) (hF : Fld w' q) (hq : w.heap.size ≤ q) : MS w0 (some q) R X w' := by
  have k := h.keep hb
  refine ⟨k.below, fun q' e => (by injection e with e; subst e; exact ⟨Nat.le_trans h.below.size hq, hF⟩), fun r hr => ⟨(k.row r hr).1, fun q' e b o e2 hl => ?_, (k.row r hr).2.2⟩, fun x hx => ⟨(k.box x hx).1, fun q' e => ?_⟩⟩
  · injection e with e
    obtain ⟨b', o', e', hlt, _⟩ := (h.row r hr).1 (by simpa using hl)
    rw [e2] at e'; injection e' with e'; injection e' with e' _
    omega
  · injection e with e
    obtain ⟨T, hb⟩ := (h.box x hx).1
    have := hb.lt
    omega
/-- A box written. -/
theorem MS.set {g : Nat} {i0 i1 : Int} {B : Option Addr} {nn cc : Nat} (h : MS w0 p R ((g, #[.int .i64 i0, .int .i64 i1, .slice B nn cc]) :: X) w) (hg : w0.heap.size ≤ g) (hne : ∀ x ∈ X, x.1 ≠ g) (v0 v1 v2 : Value) :
    MS w0 p R ((g, #[v0, v1, v2]) :: X) (((w.setCell ⟨g, 0, none⟩ v0).setCell ⟨g, 1, none⟩ v1).setCell ⟨g, 2, none⟩ v2) := by
  obtain ⟨T, hb⟩ := (h.box _ (.head _)).1
  have hq := (h.box _ (.head _)).2
  obtain ⟨hb', hf⟩ := set3 hb v0 v1 v2
  refine ⟨h.below.trans (hf.below h.below.size fun k hk => by rw [hk]; exact hg), fun q e => ⟨(h.fld q e).1, (h.fld q e).2.fr hf (fun e2 => hq q e e2.symm)⟩, fun r hr => ⟨fun hl => ?_, (h.row r hr).2⟩, fun x hx => ?_⟩
  · obtain ⟨b, off, e, hlt, hc⟩ := (h.row r hr).1 hl
    refine ⟨b, off, e, Nat.lt_of_lt_of_le hlt hf.size, fun j v hv => (World.cell?_of_block (hf.block b hlt fun e2 => ?_)).trans (hc j v hv)⟩
    dsimp only at e2
    subst e2
    have hl' : 0 < r.l.length := by simpa using hl
    have h1 := hc 0 (u8v r.l[0]) (by rw [List.getElem?_map, List.getElem?_eq_getElem hl']; rfl)
    obtain ⟨⟨k0, k1, k2⟩, _⟩ := cells3 hb
    rw [Nat.add_zero] at h1
    match off with
    | 0 => rw [k0] at h1; injection h1 with h1; injection h1 with h1 _; cases h1
    | 1 => rw [k1] at h1; injection h1 with h1; injection h1 with h1 _; cases h1
    | 2 => rw [k2] at h1; injection h1 with h1; cases h1
    | o + 3 => rw [hb.cell (o + 3), Array.getElem?_eq_none (by simp)] at h1; cases h1
  · rcases List.mem_cons.1 hx with rfl | hx
    · exact ⟨⟨T, hb'⟩, hq⟩
    · exact ⟨(h.box x (.tail _ hx)).1.imp fun _ k => k.fr hf (hne x hx), (h.box x (.tail _ hx)).2⟩
theorem MS.far (h : MS w0 p R X w) : ∀ x ∈ X, x.1 ≠ w.heap.size := fun x hx => by obtain ⟨T, hb⟩ := (h.box x hx).1; have := hb.lt; omega
theorem newMx : NewRun Try.prog 27 #[.int .i64 0, .int .i64 0, .slice none 0 0] := fun w => by kernel_rfl
theorem newR (h : MS w0 none R X w) : Calls Try.prog 12 #[] w fun e w' => e = .returned (.pointer (some ⟨w.heap.size, 0, none⟩)) ∧ MS w0 (some w.heap.size) R X w' :=
  (newf_any w).mono fun e w' ⟨he, hF, hb, hs⟩ => ⟨he, h.out hb _ (.inl hF) (Nat.le_refl _)⟩
theorem right_dim {r c n : Nat} (h : r ≤ 100 ∧ c ≤ 100) (hn : n = r * c) : rightB r c n = true := by
  unfold rightB
  rw [decide_eq_true_iff]
  exact ⟨by omega, by omega, by omega, by omega, by rw [hn]; simp⟩
variable (h : MS w0 p R X w)
include h
section
variable {A B : Option Addr} {a b : List UInt8} {ca cb n m r c d : Nat} {ma mb : M} {R1 C1 R2 C2 : Int}
theorem smallR (t : Int) (ht : 0 ≤ t ∧ t ≤ 100) {v : Bool} (hv : smallB t R1 C1 n = v) : Calls Try.prog 16 #[.agg #[.int .i64 R1, .int .i64 C1, .slice A n ca], .int .i64 t] w (SayM w0 p R X (.bool v)) := by
  subst hv
  exact (small_any w t R1 C1 ht A n ca).mono fun e w' ⟨he, hb⟩ => ⟨he, h.keep hb⟩
theorem rightR {v : Bool} (hv : rightB R1 C1 n = v) : Calls Try.prog 26 #[.agg #[.int .i64 R1, .int .i64 C1, .slice A n ca]] w (SayM w0 p R X (.bool v)) := by
  subst hv
  exact (right_any w R1 C1 A n ca).mono fun e w' ⟨he, hb⟩ => ⟨he, h.keep hb⟩
theorem sameR (ha : ⟨A, a, ca⟩ ∈ R) (hn : a.length = n) (hb : ⟨B, b, cb⟩ ∈ R) (hm : b.length = m) {v : Bool} (hv : sameB R1 C1 R2 C2 a b = v) :
    Calls Try.prog 24 #[.agg #[.int .i64 R1, .int .i64 C1, .slice A n ca], .agg #[.int .i64 R2, .int .i64 C2, .slice B m cb]] w (SayM w0 p R X (.bool v)) := by
  subst hv
  exact (same_any w R1 C1 R2 C2 A B a b n ca m cb _ _ hn hm (Nat.le_refl _) (Nat.le_refl _) (h.row _ ha).1 (h.row _ hb).1).mono fun e w' ⟨he, hb⟩ => ⟨he, h.keep hb⟩
theorem sameBytesR (ha : ⟨A, a, ca⟩ ∈ R) (hn : a.length = n) (hb : ⟨B, b, cb⟩ ∈ R) (hm : b.length = m) {v : Bool} (hv : decide (a = b) = v) :
    Calls Try.prog 41 #[.slice A n ca, .slice B m cb] w fun e w' => e = .returned (.bool v) ∧ w = w' := by
  subst hv
  exact sameBytes_any w A B a b n ca m cb _ _ hn hm (h.row _ ha).1 (h.row _ hb).1
theorem turnR (ha : ⟨A, a, ca⟩ ∈ R) (hn : n = r * c) (hR : R1 = r ∧ C1 = c) (hd : r ≤ 100 ∧ c ≤ 100) (hA : a = flat r c ma) (Ro Co : Int) (no : Nat) (ho : Ro = c ∧ Co = r ∧ no = c * r) {l : List UInt8} (hl : flat c r (fun x y => ma y x) = l) :
    Calls Try.prog 34 #[.agg #[.int .i64 R1, .int .i64 C1, .slice A n ca]] w (MatR w0 p R X Ro Co no l) := by
  obtain ⟨rfl, rfl⟩ := hR; obtain ⟨rfl, rfl, rfl⟩ := ho
  subst hA; subst hl
  have hq : r * c ≤ 10000 := Nat.mul_le_mul hd.1 hd.2
  refine (turned_ok w r c A n ca ma hn (right_dim hd hn) (by have := (h.row _ ha).2.2; rw [hn]; simpa [flat_len] using this) (by omega) (h.row _ ha).1).mono fun e w' ⟨A', cap, he, hle, hnw, hb⟩ => ⟨A', cap, he, (h.keep hb).new hnw h.lt (by rw [flat_len]; exact hle)⟩
theorem turn0R (hv : rightB R1 C1 n = false) : Calls Try.prog 34 #[.agg #[.int .i64 R1, .int .i64 C1, .slice A n ca]] w (SayM w0 p R X (.tuple #[.agg #[.int .i64 0, .int .i64 0, .slice none 0 0], .int .i64 50])) :=
  (turned_bad w R1 C1 A n ca hv).mono fun e w' ⟨he, hb⟩ => ⟨he, h.keep hb⟩
theorem oneR (hR : R1 = r) (hd : r ≤ 100) (no : Nat) (ho : no = r * r) {l : List UInt8} (hl : flat r r idm = l) : Calls Try.prog 27 #[.int .i64 R1] w (MatO w0 p R X R1 R1 no l) := by
  subst hR; subst ho; subst hl
  exact (one_in w r (by omega)).mono fun e w' ⟨A', cap, he, hle, hnw, hb⟩ => ⟨A', cap, he, (h.keep hb).new hnw h.lt (by rw [flat_len]; exact hle)⟩
theorem packdR (ha : ⟨A, a, ca⟩ ∈ R) (hn : n = r * r) (hR : R1 = r ∧ C1 = r) (hd : r ≤ 100) (hA : a = flat r r ma) (hs : flat r r (fun x y => ma y x) = flat r r ma) (no : Nat) (ho : no = offS r r) {l : List UInt8} (hl : packS r ma r = l) :
    Calls Try.prog 39 #[.agg #[.int .i64 R1, .int .i64 C1, .slice A n ca]] w (BytR w0 p R X no l) := by
  obtain ⟨rfl, rfl⟩ := hR
  subst hA; subst hl; subst ho
  have hq : r * r ≤ 10000 := Nat.mul_le_mul hd hd
  refine (packed_ok w r A n ca ma hn (right_dim ⟨hd, hd⟩ hn) (by have := (h.row _ ha).2.2; rw [hn]; simpa [flat_len] using this) (by omega) (h.row _ ha).1 hs).mono fun e w' ⟨A', cap, he, hle, hnw, hb⟩ => ⟨A', cap, he, (h.keep hb).new hnw h.lt (by rw [packS_len]; exact hle)⟩
theorem symR (ha : ⟨A, b, ca⟩ ∈ R) (hcm : ca ≤ maxLen) (hn : b.length = n) (hR : R1 = r) (hd : r ≤ 100) (h2 : 2 * n = r * (r + 1)) (no : Nat) (ho : no = r * r) {l : List UInt8} (hl : flat r r (symM r b) = l) :
    Calls Try.prog 30 #[.int .i64 R1, .slice A n ca] w (MatR w0 p R X R1 R1 no l) := by
  subst hR; subst ho; subst hl
  exact (sym_ok w r hd A b n ca hn h2 (by have := (h.row _ ha).2.2; dsimp only at this; omega) hcm (h.row _ ha).1).mono fun e w' ⟨A', cap, he, hle, hnw, hb⟩ => ⟨A', cap, he, (h.keep hb).new hnw h.lt (by rw [flat_len]; exact hle)⟩
theorem sym0R (hR : 0 ≤ R1 ∧ R1 ≤ 100) (h2 : (n : Int) ≠ R1 * (R1 + 1) / 2) : Calls Try.prog 30 #[.int .i64 R1, .slice A n ca] w (SayM w0 p R X (.tuple #[.agg #[.int .i64 0, .int .i64 0, .slice none 0 0], .int .i64 50])) :=
  (sym_bad w R1 A n ca (by omega) (.inr (.inr ⟨by omega, by omega, h2⟩))).mono fun e w' ⟨he, hb⟩ => ⟨he, h.keep hb⟩
end
end
section
variable {w0 w w' : World} {q : Nat} {R : List Rw} {X : List (Nat × Array Value)}
variable (h : MS w0 (some q) R X w)
include h
variable {A B : Option Addr} {a b : List UInt8} {ca cb n m r c d : Nat} {ma mb : M} {R1 C1 R2 C2 : Int}
theorem mulR (ha : ⟨A, a, ca⟩ ∈ R) (hb : ⟨B, b, cb⟩ ∈ R) (hn : n = r * c) (hm : m = c * d) (hR : R1 = r ∧ C1 = c ∧ R2 = c ∧ C2 = d) (hd : r ≤ 100 ∧ c ≤ 100 ∧ d ≤ 100) (hA : a = flat r c ma) (hB : b = flat c d mb)
    (Ro Co : Int) (no : Nat) (ho : Ro = r ∧ Co = d ∧ no = r * d) {l : List UInt8} (hl : flat r d (mulM c ma mb) = l) :
    Calls Try.prog 18 #[fptr (some q), .agg #[.int .i64 R1, .int .i64 C1, .slice A n ca], .agg #[.int .i64 R2, .int .i64 C2, .slice B m cb]] w (MatR w0 (some q) R X Ro Co no l) := by
  obtain ⟨rfl, rfl, rfl, rfl⟩ := hR; obtain ⟨rfl, rfl, rfl⟩ := ho
  subst hA; subst hB; subst hl
  have k1 := (h.row _ ha).2.2; have k2 := (h.row _ hb).2.2
  dsimp only at k1 k2
  rw [flat_len] at k1 k2
  refine (mul_ok w q (h.fld q rfl).2 r c d A B n ca m cb ma mb (right_dim ⟨hd.1, hd.2.1⟩ hn) (right_dim ⟨hd.2.1, hd.2.2⟩ hm) hd ⟨by omega, by omega⟩ (h.in_ ha) (h.in_ hb)).mono fun e w' ⟨A', cap, he, hle, hnw, hF, hf⟩ => ⟨A', cap, he, (h.fr hF hf).new hnw h.lt (by rw [flat_len]; exact hle)⟩
theorem mul0R (hv : mulB R1 C1 n R2 C2 m = false) : Calls Try.prog 18 #[fptr (some q), .agg #[.int .i64 R1, .int .i64 C1, .slice A n ca], .agg #[.int .i64 R2, .int .i64 C2, .slice B m cb]] w (SayM w0 (some q) R X (.tuple #[.agg #[.int .i64 0, .int .i64 0, .slice none 0 0], .int .i64 50])) :=
  (mul_bad w q R1 C1 R2 C2 A B n ca m cb hv).mono fun e w' ⟨he, hb⟩ => ⟨he, h.keep hb⟩
theorem rankR (ha : ⟨A, a, ca⟩ ∈ R) (hn : n = r * c) (hR : R1 = r ∧ C1 = c) (hd : r ≤ 100 ∧ c ≤ 100) (hA : a = flat r c ma) (Ko : Int) (ho : Ko = rankM r c ma) :
    Calls Try.prog 14 #[fptr (some q), .agg #[.int .i64 R1, .int .i64 C1, .slice A n ca]] w (SayM w0 (some q) R X (.tuple #[.int .i64 Ko, .int .i64 0])) := by
  obtain ⟨rfl, rfl⟩ := hR
  subst hA; subst ho
  exact (rank_ok w q (h.fld q rfl).2 r c A n ca ma (right_dim hd hn) hd (h.in_ ha)).mono fun e w' ⟨he, hF, hf⟩ => ⟨he, h.fr hF hf⟩
theorem solveR (ha : ⟨A, a, ca⟩ ∈ R) (hb : ⟨B, b, cb⟩ ∈ R) (hn : n = r * c) (hm : m = r * d) (hR : R1 = r ∧ C1 = c ∧ R2 = r ∧ C2 = d) (hd : r ≤ 100 ∧ c ≤ 100 ∧ d ≤ 100) (hA : a = flat r c ma) (hB : b = flat r d mb) (hs : solves r c d ma mb = true)
    (Ro Co : Int) (no : Nat) (ho : Ro = c ∧ Co = d ∧ no = c * d) {l : List UInt8} (hl : flat c d (redTo r ma mb c).B = l) :
    Calls Try.prog 21 #[fptr (some q), .agg #[.int .i64 R1, .int .i64 C1, .slice A n ca], .agg #[.int .i64 R2, .int .i64 C2, .slice B m cb]] w (MatR w0 (some q) R X Ro Co no l) := by
  obtain ⟨rfl, rfl, rfl, rfl⟩ := hR; obtain ⟨rfl, rfl, rfl⟩ := ho
  subst hA; subst hB; subst hl
  refine (solve_ok w q (h.fld q rfl).2 r c d A B n ca m cb ma mb (right_dim ⟨hd.1, hd.2.1⟩ hn) (right_dim ⟨hd.1, hd.2.2⟩ hm) hd (h.in_ ha) (h.in_ hb) hs).mono fun e w' ⟨A', cap, he, hle, hnw, hF, hf⟩ => ⟨A', cap, he, (h.fr hF hf).new hnw h.lt (by rw [flat_len]; exact hle)⟩
theorem solve1R (ha : ⟨A, a, ca⟩ ∈ R) (hb : ⟨B, b, cb⟩ ∈ R) (hn : n = r * c) (hm : m = r * d) (hR : R1 = r ∧ C1 = c ∧ R2 = r ∧ C2 = d) (hd : r ≤ 100 ∧ c ≤ 100 ∧ d ≤ 100) (hA : a = flat r c ma) (hB : b = flat r d mb) (hs : solves r c d ma mb = false) :
    Calls Try.prog 21 #[fptr (some q), .agg #[.int .i64 R1, .int .i64 C1, .slice A n ca], .agg #[.int .i64 R2, .int .i64 C2, .slice B m cb]] w (SayM w0 (some q) R X (.tuple #[.agg #[.int .i64 0, .int .i64 0, .slice none 0 0], .int .i64 51])) := by
  obtain ⟨rfl, rfl, rfl, rfl⟩ := hR
  subst hA; subst hB
  exact (solve_no w q (h.fld q rfl).2 r c d A B n ca m cb ma mb (right_dim ⟨hd.1, hd.2.1⟩ hn) (right_dim ⟨hd.1, hd.2.2⟩ hm) hd (h.in_ ha) (h.in_ hb) hs).mono fun e w' ⟨he, hF, hf⟩ => ⟨he, h.fr hF hf⟩
theorem solve0R (F : Value) (hv : solB R1 C1 n R2 C2 m = false) : Calls Try.prog 21 #[F, .agg #[.int .i64 R1, .int .i64 C1, .slice A n ca], .agg #[.int .i64 R2, .int .i64 C2, .slice B m cb]] w (SayM w0 (some q) R X (.tuple #[.agg #[.int .i64 0, .int .i64 0, .slice none 0 0], .int .i64 50])) :=
  (solve_bad w F R1 C1 R2 C2 A B n ca m cb hv).mono fun e w' ⟨he, hb⟩ => ⟨he, h.keep hb⟩
theorem invR (ha : ⟨A, a, ca⟩ ∈ R) (hn : n = r * r) (hR : R1 = r ∧ C1 = r) (hd : r ≤ 100) (hA : a = flat r r ma) (hs : solves r r r ma idm = true) (Ro : Int) (no : Nat) (ho : Ro = r ∧ no = r * r) {l : List UInt8} (hl : flat r r (redTo r ma idm r).B = l) :
    Calls Try.prog 15 #[fptr (some q), .agg #[.int .i64 R1, .int .i64 C1, .slice A n ca]] w (MatR w0 (some q) R X Ro Ro no l) := by
  obtain ⟨rfl, rfl⟩ := hR; obtain ⟨rfl, rfl⟩ := ho
  subst hA; subst hl
  refine (inv_ok w q (h.fld q rfl).2 r A n ca ma (right_dim ⟨hd, hd⟩ hn) hd (h.in_ ha) hs).mono fun e w' ⟨A', cap, he, hle, hnw, hF, hf⟩ => ⟨A', cap, he, (h.fr hF hf).new hnw h.lt (by rw [flat_len]; exact hle)⟩
theorem inv1R (ha : ⟨A, a, ca⟩ ∈ R) (hn : n = r * r) (hR : R1 = r ∧ C1 = r) (hd : r ≤ 100) (hA : a = flat r r ma) (hs : solves r r r ma idm = false) :
    Calls Try.prog 15 #[fptr (some q), .agg #[.int .i64 R1, .int .i64 C1, .slice A n ca]] w (SayM w0 (some q) R X (.tuple #[.agg #[.int .i64 0, .int .i64 0, .slice none 0 0], .int .i64 51])) := by
  obtain ⟨rfl, rfl⟩ := hR
  subst hA
  exact (inv_no w q (h.fld q rfl).2 r A n ca ma (right_dim ⟨hd, hd⟩ hn) hd (h.in_ ha) hs).mono fun e w' ⟨he, hF, hf⟩ => ⟨he, h.fr hF hf⟩
theorem inv0R (F : Value) (hv : (rightB R1 C1 n && R1 == C1) = false) : Calls Try.prog 15 #[F, .agg #[.int .i64 R1, .int .i64 C1, .slice A n ca]] w (SayM w0 (some q) R X (.tuple #[.agg #[.int .i64 0, .int .i64 0, .slice none 0 0], .int .i64 50])) :=
  (inv_bad w F R1 C1 A n ca hv).mono fun e w' ⟨he, hb⟩ => ⟨he, h.keep hb⟩
theorem powR (ha : ⟨A, a, ca⟩ ∈ R) (hn : a.length = n) (hR : C1 = c) (hd : n ≤ 1000 ∧ c ≤ 1000) (Ro : Int) (no : Nat) (ho : Ro = n ∧ no = n * c) {l : List UInt8} (hl : flat n c (powM a) = l) :
    Calls Try.prog 13 #[fptr (some q), .slice A n ca, .int .i64 C1] w (MatO w0 (some q) R X Ro C1 no l) := by
  obtain ⟨rfl, rfl⟩ := ho
  subst hR; subst hl
  have k : Calls Try.prog 13 #[fptr (some q), .slice A n ca, .int .i64 (c : Int)] w (NewMF w q n c (powM a)) := by
    rcases Nat.eq_zero_or_pos n with h0 | h0
    · exact pow_ok2 w q (h.fld q rfl).2 A a n ca hn c (h.in_ ha) hd h0
    · exact pow_ok1 w q (h.fld q rfl).2 A a n ca hn c (h.in_ ha) hd h0
  exact k.mono fun e w' ⟨A', cap, he, hle, hnw, hF, hf⟩ => ⟨A', cap, he, (h.fr hF hf).new hnw h.lt (by rw [flat_len]; exact hle)⟩
end
theorem Mx_field2 (W : World) (a b : Int) (A : Option Addr) (n c : Nat) : (Instr.field 27 (.agg #[.int .i64 a, .int .i64 b, .slice A n c]) 2).run Try.prog W = .ok (.slice A n c) W := by kernel_rfl
theorem Mx_build1 (W : World) (a : Int) : (Instr.buildSlice 22 1 #[(0, .int .u8 a)]).run Try.prog W = .ok (.slice (some ⟨W.heap.size, 0, none⟩) 1 1) (W.alloc (.cells #[.int .u8 a] 5)) := by kernel_rfl
theorem Mx_build2 (W : World) (a b : Int) : (Instr.buildSlice 22 2 #[(0, .int .u8 a), (1, .int .u8 b)]).run Try.prog W = .ok (.slice (some ⟨W.heap.size, 0, none⟩) 2 2) (W.alloc (.cells #[.int .u8 a, .int .u8 b] 5)) := by kernel_rfl
theorem Mx_build3 (W : World) (a b c : Int) : (Instr.buildSlice 22 3 #[(0, .int .u8 a), (1, .int .u8 b), (2, .int .u8 c)]).run Try.prog W = .ok (.slice (some ⟨W.heap.size, 0, none⟩) 3 3) (W.alloc (.cells #[.int .u8 a, .int .u8 b, .int .u8 c] 5)) := by kernel_rfl
theorem Mx_build4 (W : World) (a b c d : Int) : (Instr.buildSlice 22 4 #[(0, .int .u8 a), (1, .int .u8 b), (2, .int .u8 c), (3, .int .u8 d)]).run Try.prog W = .ok (.slice (some ⟨W.heap.size, 0, none⟩) 4 4) (W.alloc (.cells #[.int .u8 a, .int .u8 b, .int .u8 c, .int .u8 d] 5)) := by kernel_rfl
theorem Mx_build6 (W : World) (a b c d e f : Int) : (Instr.buildSlice 22 6 #[(0, .int .u8 a), (1, .int .u8 b), (2, .int .u8 c), (3, .int .u8 d), (4, .int .u8 e), (5, .int .u8 f)]).run Try.prog W = .ok (.slice (some ⟨W.heap.size, 0, none⟩) 6 6) (W.alloc (.cells #[.int .u8 a, .int .u8 b, .int .u8 c, .int .u8 d, .int .u8 e, .int .u8 f] 5)) := by kernel_rfl
end Go.Proofs.Ythdapoipfnnaeaa.MxW
/- What the calls of chapter 05 answer, plain: solutions, inverses, symmetric matrices. -/
namespace Go.Proofs.Ythdapoipfnnaeaa.MxW
open Gf FdW Mx Mem Rng
open Go.RowKit
set_option linter.unusedVariables false
set_option linter.unusedSectionVars false

theorem nz_false {l : List UInt8} (h : anyNz l = false) : ∀ x ∈ l, x = 0 := fun x hx => by
  unfold anyNz at h
  have := (List.any_eq_false.1 h) x hx
  unfold nz at this
  simpa using this
theorem drop_zero {r c d : Nat} {B : M} : anyNz ((flat r d B).drop (c * d)) = false ↔ ∀ i, c ≤ i → i < r → ∀ k, k < d → B i k = 0 := by
  constructor
  · intro h i hi hir k hk
    have h1 := flat_get (m := B) hir hk
    have hle : c * d ≤ i * d := Nat.mul_le_mul_right d hi
    refine nz_false h _ (List.mem_of_getElem? (i := i * d + k - c * d) ?_)
    rw [List.getElem?_drop, show c * d + (i * d + k - c * d) = i * d + k by omega]
    exact h1
  · intro h
    unfold anyNz
    refine List.any_eq_false.2 fun x hx => ?_
    obtain ⟨j, hj⟩ := List.mem_iff_getElem?.1 hx
    rw [List.getElem?_drop] at hj
    have hl : c * d + j < r * d := by
      have := (List.getElem?_eq_some_iff.1 hj).1
      rwa [flat_len] at this
    obtain ⟨i, k, hi, hk, e⟩ := idx_of hl
    rw [e, flat_get hi hk] at hj
    injection hj with hj
    rw [← hj, h i (Nat.le_of_not_lt fun hlt => by have := idx_lt hlt hk; omega) hi k hk]
    decide
section
variable {r c d : Nat} {a b x : M}
theorem rank_eq (r c : Nat) (a b : M) : (redTo r a b c).at_ = rankM r c a := (Mx.redTo_A a b (fun _ _ => 0) r c).2
theorem rank_min (r c : Nat) (a : M) : rankM r c a ≤ r ∧ rankM r c a ≤ c := redTo_at c
theorem solve_rank (h : solves r c d a b = true) : rankM r c a = c := by
  unfold solves at h
  rw [Bool.and_eq_true, decide_eq_true_iff, rank_eq] at h
  exact h.1
theorem solve_less (h : rankM r c a ≠ c) : solves r c d a b = false := by
  cases hs : solves r c d a b with
  | false => rfl
  | true => exact absurd (solve_rank hs) h
theorem solve_is (h : solves r c d a b = true) : flat r d (mulM c a (redTo r a b c).B) = flat r d b := by
  have hr := solve_rank h
  unfold solves at h
  rw [Bool.and_eq_true, Bool.not_eq_true', drop_zero] at h
  exact flat_congr fun i hi k hk => sol_is (by rw [rank_eq]; exact hr) (fun i h1 h2 => h.2 i h1 h2 k hk) i hi
theorem solve_full (hr : rankM r c a = c) : solves r c d a (mulM c a x) = true ∧ flat c d (redTo r a (mulM c a x) c).B = flat c d x := by
  have hk := fun k => sol_unique (A := a) (B := mulM c a x) (r := r) (c := c) (x := x) (k := k) (by rw [rank_eq]; exact hr) fun i _ => rfl
  refine ⟨?_, flat_congr fun i hi k _ => (hk k).1 i hi⟩
  unfold solves
  rw [Bool.and_eq_true, decide_eq_true_iff, Bool.not_eq_true', drop_zero, rank_eq]
  exact ⟨hr, fun i h1 h2 k _ => (hk k).2 i h1 h2⟩
theorem solve_sq (hr : rankM r r a = r) : solves r r d a b = true := by
  unfold solves
  rw [Bool.and_eq_true, decide_eq_true_iff, Bool.not_eq_true', drop_zero, rank_eq]
  exact ⟨hr, fun i h1 h2 => by omega⟩
theorem inv_right (h : solves r r r a idm = true) : flat r r (mulM r a (redTo r a idm r).B) = flat r r idm := solve_is h
theorem inv_left (h : solves r r r a idm = true) : flat r r (mulM r (redTo r a idm r).B a) = flat r r idm := by
  have hr := solve_rank h
  have h1 := inv_right h
  generalize (redTo r a idm r).B = v at h1 ⊢
  refine flat_congr fun i hi k hk => ?_
  have h2 := sol_unique (A := a) (B := a) (r := r) (c := r) (x := mulM r v a) (k := k) (by rw [rank_eq]; exact hr) fun i hi => by
    rw [← mulM_assoc]
    rw [mulM_congr (a' := idm') (b' := a) (fun j hj => flat_inj h1 hi hj) fun j _ => rfl]
    exact id_mulM a hi k
  have h3 := sol_unique (A := a) (B := a) (r := r) (c := r) (x := idm') (k := k) (by rw [rank_eq]; exact hr) fun i hi => mulM_id a i hk
  rw [← h2.1 i hi, h3.1 i hi]; rfl
end
theorem symM_turn (n : Nat) (b : List UInt8) (x y : Nat) : symM n b y x = symM n b x y := by
  unfold symM
  by_cases h : x ≤ y
  · by_cases h2 : y ≤ x
    · obtain rfl : x = y := by omega
      rfl
    · rw [if_neg h2, if_pos h]
  · rw [if_pos (by omega), if_neg h]
theorem packS_sym {n : Nat} {b : List UInt8} (hb : b.length = offS n n) : ∀ k, k ≤ n → packS n (symM n b) k = b.take (offS n k)
  | 0 => fun _ => rfl
  | k + 1 => by
    intro hk
    have h1 : offS n k + (n - k) ≤ offS n n := by have := offS_mono (n := n) (show k + 1 ≤ n from hk); exact this
    rw [packS_succ, packS_sym hb k (by omega), show offS n (k + 1) = offS n k + (n - k) from rfl, List.take_add]
    congr 1
    apply List.ext_getElem?
    intro j
    by_cases hj : j < n - k
    · rw [List.getElem?_take, if_pos hj, List.getElem?_drop]
      unfold packR
      rw [List.getElem?_map, List.getElem?_range hj, Option.map_some]
      unfold symM
      rw [if_pos (by omega), show k + j - k = j by omega, List.getD_eq_getElem?_getD, List.getElem?_eq_getElem (by omega)]; rfl
    · rw [List.getElem?_take, if_neg hj, List.getElem?_eq_none (by rw [packR_len]; omega)]
theorem packS_back {n : Nat} {b : List UInt8} (hb : b.length = offS n n) : packS n (symM n b) n = b := by
  rw [packS_sym hb n (Nat.le_refl _), ← hb, List.take_length]
theorem gram_sym (c r : Nat) (m : M) : flat r r (fun x y => mulM c m (fun x y => m y x) y x) = flat r r (mulM c m fun x y => m y x) :=
  flat_congr fun i _ k _ => by unfold mulM; exact xsum_congr fun j _ => mul_comm _ _
theorem sameB_self (R C : Int) (a : List UInt8) : sameB R C R C a a = true := by unfold sameB; exact decide_eq_true ⟨rfl, rfl, rfl⟩
end Go.Proofs.Ythdapoipfnnaeaa.MxW
/- The document's functions: boxes, a matrix being written; One. -/
namespace Go.Proofs.Ythdapoipfnnaeaa.MxW
open Go.RowKit Go.Shelf Mem Gf FdW Mx Rng
open PlW (In)
set_option linter.unusedVariables false
set_option linter.unusedSectionVars false
attribute [local go_sem] Oper.semAt_some wide_fn

/-- Boxes since w0, and a matrix that is being written in block g. -/
structure WS (w0 : World) (Y : List (Nat × TypeId × Array Value)) (g cap r c : Nat) (m : M) (w : World) : Prop where
  below : Below w0.heap.size w0 w
  box : ∀ y ∈ Y, Blk w y.1 y.2.1 y.2.2 ∧ y.2.1 ≠ 5 ∧ w0.heap.size ≤ y.1
  row : Wm w w0.heap.size g cap r c m
/-- Boxes alone. -/
structure BS (w0 : World) (Y : List (Nat × TypeId × Array Value)) (w : World) : Prop where
  below : Below w0.heap.size w0 w
  box : ∀ y ∈ Y, Blk w y.1 y.2.1 y.2.2 ∧ y.2.1 ≠ 5 ∧ w0.heap.size ≤ y.1
section
variable {w0 w w' : World} {Y : List (Nat × TypeId × Array Value)} {g cap r c : Nat} {m m' : M}
theorem BS.start (w : World) : BS w [] w := ⟨Below.refl _ _, fun _ h => (List.not_mem_nil h).elim⟩
theorem BS.keep (h : BS w0 Y w) (hb : Below w.heap.size w w') : BS w0 Y w' := ⟨next h.below hb, fun y hy => ⟨(h.box y hy).1.keep hb, (h.box y hy).2⟩⟩
theorem BS.put (h : BS w0 Y w) (cs : Array Value) (T : TypeId) (hT : T ≠ 5) : BS w0 ((w.heap.size, T, cs) :: Y) (w.alloc (.cells cs T)) := by
  have k := h.keep (nextA (Mem.start w) (.cells cs T))
  exact ⟨k.below, fun y hy => by
    rcases List.mem_cons.1 hy with rfl | hy
    · exact ⟨Blk.new w _ _, hT, h.below.size⟩
    · exact k.box y hy⟩
theorem BS.cells (h : BS w0 Y w) {b : Nat} {T : TypeId} {c0 c1 c2 : Value} (hy : (b, T, #[c0, c1, c2]) ∈ Y) : (w.cell? ⟨b, 0, none⟩ = some c0 ∧ w.cell? ⟨b, 1, none⟩ = some c1 ∧ w.cell? ⟨b, 2, none⟩ = some c2) ∧ w.frozen? ⟨b, 0, none⟩ = false ∧ w.frozen? ⟨b, 1, none⟩ = false ∧ w.frozen? ⟨b, 2, none⟩ = false := cells3 (h.box _ hy).1
theorem BS.none_ (h : BS w0 Y w) (ho : Wm w' w0.heap.size g cap r c m) (hb : Below w.heap.size w w') : WS w0 Y g cap r c m w' := ⟨(h.keep hb).below, (h.keep hb).box, ho⟩
theorem WS.bs (h : WS w0 Y g cap r c m w) : BS w0 Y w := ⟨h.below, h.box⟩
theorem WS.keep (h : WS w0 Y g cap r c m w) (hb : Below w.heap.size w w') : WS w0 Y g cap r c m w' := ⟨(h.bs.keep hb).below, (h.bs.keep hb).box, h.row.keep hb⟩
theorem WS.put (h : WS w0 Y g cap r c m w) (cs : Array Value) (T : TypeId) (hT : T ≠ 5) : WS w0 ((w.heap.size, T, cs) :: Y) g cap r c m (w.alloc (.cells cs T)) :=
  ⟨(h.bs.put cs T hT).below, (h.bs.put cs T hT).box, h.row.keep (nextA (Mem.start w) _)⟩
theorem WS.cells (h : WS w0 Y g cap r c m w) {b : Nat} {T : TypeId} {c0 c1 c2 : Value} (hy : (b, T, #[c0, c1, c2]) ∈ Y) : (w.cell? ⟨b, 0, none⟩ = some c0 ∧ w.cell? ⟨b, 1, none⟩ = some c1 ∧ w.cell? ⟨b, 2, none⟩ = some c2) ∧ w.frozen? ⟨b, 0, none⟩ = false ∧ w.frozen? ⟨b, 1, none⟩ = false ∧ w.frozen? ⟨b, 2, none⟩ = false := h.bs.cells hy
theorem WS.set (h : WS w0 Y g cap r c m w) {i k : Nat} (hi : i < r) (hk : k < c) (x : UInt8) : WS w0 Y g cap r c (upd m i k x) (w.setCell ⟨g, i * c + k, none⟩ (.int .u8 (x.toNat : Int))) := by
  have hf := setF (p := g) w ⟨g, i * c + k, none⟩ rfl (.int .u8 (x.toNat : Int))
  refine ⟨h.below.trans (hf.below h.below.size fun k hk => by rw [hk]; exact h.row.form.1), fun y hy => ⟨(h.box y hy).1.fr hf fun e => ?_, (h.box y hy).2⟩, h.row.set hi hk x⟩
  exact (h.box y hy).1.ne_own h.row (h.box y hy).2.1 g rfl e.symm
theorem WS.congr (h : WS w0 Y g cap r c m w) (hm : ∀ i, i < r → ∀ k, k < c → m i k = m' i k) : WS w0 Y g cap r c m' w := ⟨h.below, h.box, h.row.congr hm⟩
theorem WS.at_ (h : WS w0 Y g cap r c m w) {i k : Nat} (hi : i < r) (hk : k < c) : w.cell? ⟨g, i * c + k, none⟩ = some (.int .u8 ((m i k).toNat : Int)) ∧ w.frozen? ⟨g, i * c + k, none⟩ = false := h.row.at_ hi hk
theorem WS.nw (h : WS w0 Y g cap r c m w) : Nw w0.heap.size w (some ⟨g, 0, none⟩) (flat r c m) := h.row.nw
end
/-- The result's box is written, nothing else. -/
theorem BS.end_ {w0 w : World} {Y : List (Nat × TypeId × Array Value)} (h : BS w0 Y w) {b : Nat} {T : TypeId} {c0 c1 c2 : Value} (hy : (b, T, #[c0, c1, c2]) ∈ Y) (v0 v1 v2 : Value) :
    let w' := (((w.setCell ⟨b, 0, none⟩ v0).setCell ⟨b, 1, none⟩ v1).setCell ⟨b, 2, none⟩ v2)
    Below w0.heap.size w0 w' ∧ Fr (fun k => k = b) w w' ∧ w'.cell? ⟨b, 0, none⟩ = some v0 ∧ w'.cell? ⟨b, 1, none⟩ = some v1 ∧ w'.cell? ⟨b, 2, none⟩ = some v2 := by
  obtain ⟨hb, hf⟩ := set3 (h.box _ hy).1 v0 v1 v2
  exact ⟨h.below.trans (hf.below h.below.size fun k hk => by rw [hk]; exact (h.box _ hy).2.2), hf, (cells3 hb).1⟩
theorem WS.end_ {w0 w : World} {Y : List (Nat × TypeId × Array Value)} {g cap r c : Nat} {m : M} (h : WS w0 Y g cap r c m w) {b : Nat} {T : TypeId} {c0 c1 c2 : Value} (hy : (b, T, #[c0, c1, c2]) ∈ Y) (v0 v1 v2 : Value) :
    let w' := (((w.setCell ⟨b, 0, none⟩ v0).setCell ⟨b, 1, none⟩ v1).setCell ⟨b, 2, none⟩ v2)
    Below w0.heap.size w0 w' ∧ Nw w0.heap.size w' (some ⟨g, 0, none⟩) (flat r c m) ∧ w'.cell? ⟨b, 0, none⟩ = some v0 ∧ w'.cell? ⟨b, 1, none⟩ = some v1 ∧ w'.cell? ⟨b, 2, none⟩ = some v2 := by
  obtain ⟨h1, h2, h3⟩ := h.bs.end_ hy v0 v1 v2
  refine ⟨h1, (h.row.fr h2 fun e => ?_).nw, h3⟩
  exact (h.box _ hy).1.ne_own h.row (h.box _ hy).2.1 g rfl e
def T5 : TypeId := 38
theorem oneM_next (j i k : Nat) : upd (oneM j) j j 1 i k = oneM (j + 1) i k := by
  unfold upd oneM
  by_cases h : i = j ∧ k = j
  · rw [if_pos h, if_pos (by omega)]
  · rw [if_neg h]
    by_cases h2 : i < j ∧ i = k
    · rw [if_pos h2, if_pos (by omega)]
    · rw [if_neg h2, if_neg (by omega)]
set_option maxRecDepth 100000 in
set_option maxHeartbeats 2000000 in
theorem rone_any (w : World) (n : Int) (r : Nat) (hn : max 0 n = (r : Int)) (hr : n ≤ 100) : Calls Try.prog 32 #[.int .i64 n] w (NewM w r r idm) := by
  have HN := Lib.hid (show n ≤ (r : Int) ∧ (0 ≤ n → n = r) ∧ (n < 0 → r = 0) ∧ r ≤ 100 from by omega)
  have m1 := fun W => run_max2 0 n r hn W
  have h4 : ¬ 4096 < n := by omega
  have H0 := Lib.hid (BS.start w)
  have H1 := Lib.hid (H0.out.put #[.int .i64 0, .int .i64 0, .slice none 0 0] 38 (by decide))
  go_enter Try.func32, Try.ntmps32
  go_wp2_with fail
  obtain ⟨g0, hg0⟩ : ∃ x, w.heap.size = x := ⟨_, rfl⟩
  generalize w.alloc (.cells #[.int .i64 0, .int .i64 0, .slice none 0 0] 38) = w1 at *
  rw [hg0] at H1 ⊢
  refine (rnone_any w1 r r (by have h1 : r * r ≤ 100 * 100 := Nat.mul_le_mul (by omega) (by omega); omega)).mono ?_
  rintro e w2 ⟨g, rfl, ho, hb⟩
  have H2 := Lib.hid (H1.out.none_ (g := g) (cap := r * r) (r := r) (c := r) (m := fun _ _ => 0) (show Wm w2 w.heap.size g (r * r) r r _ from ho.down H1.out.below.size) hb)
  clear ho hb m1 hn hr h4
  have H3 := Lib.hid (H2.out.put (mcells r r (some ⟨g, 0, none⟩) (r * r) (r * r)) 38 (by decide))
  go_wp2_with fail
  obtain ⟨gm, hgm⟩ : ∃ x, w2.heap.size = x := ⟨_, rfl⟩
  have HW := Lib.hid (show ∃ x : World, w2.alloc (.cells #[.int .i64 (r : Int), .int .i64 (r : Int), .slice (some ⟨g, 0, none⟩) (r * r) (r * r)] 38) = x from ⟨_, rfl⟩)
  obtain ⟨w3, hw3⟩ := HW.out
  have hw3' : w2.alloc (.cells (mcells r r (some ⟨g, 0, none⟩) (r * r) (r * r)) 38) = w3 := hw3
  rw [hw3'] at H3
  rw [hw3, hgm]
  rw [hgm] at H3
  clear hw3 hw3' HW hgm
  go_loopw [4] (fun i wr => ∃ j : Nat, i = .int .i64 (j : Int) ∧ j ≤ r ∧ WS w [(gm, 38, mcells r r (some ⟨g, 0, none⟩) (r * r) (r * r)), (g0, 38, #[.int .i64 0, .int .i64 0, .slice none 0 0])] g (r * r) r r (oneM j) wr) (fun i _ => r - (intOf i).toNat)
  case atStart => exact ⟨0, rfl, Nat.zero_le _, H3.out.congr fun i _ k _ => by unfold oneM; rw [if_neg (by omega)]⟩
  case round =>
    obtain ⟨j, rfl, hj, h⟩ := hrel
    have H4 := Lib.hid h
    clear h H3
    obtain ⟨w4, rfl⟩ : ∃ w4 : World, w4 = wr := ⟨_, rfl⟩
    have h9 := HN.out
    by_cases hjr : j < r
    · have hnr : n = (r : Int) := by omega
      subst hnr
      obtain ⟨⟨c0, c1, c2⟩, _⟩ := H4.out.cells (.head _)
      obtain ⟨e0, e1⟩ := H4.out.at_ (i := j) (k := j) hjr hjr
      have hjr1 : (j : Int) < (r : Int) := by omega
      obtain ⟨p, hp⟩ : ∃ p, j * r = p := ⟨_, rfl⟩
      have hp1 : (j : Int) * (r : Int) = (p : Int) := by rw [← hp]; simp
      have hpl : p + j < r * r := by rw [← hp]; exact idx_lt hjr hjr
      have hrr : r * r ≤ 100 * 100 := Nat.mul_le_mul (by omega) (by omega)
      have hw1 : IntKind.i64.wrap ((j : Int) * (r : Int)) = (p : Int) := by rw [hp1, IntWalk.i64_in _ (by omega)]
      have hw2 : IntKind.i64.wrap ((p : Int) + (j : Int)) = ((p + j : Nat) : Int) := by rw [IntWalk.i64_in _ (by omega)]; omega
      have hw3 : IntKind.i64.wrap ((j : Int) + 1) = ((j + 1 : Nat) : Int) := by rw [IntWalk.i64_in _ (by omega)]; omega
      obtain ⟨q, hq⟩ : ∃ q, p + j = q := ⟨_, rfl⟩
      rw [hp, hq] at e0 e1
      rw [hq] at hw2
      have hq0 : (0 : Int) ≤ (q : Int) := by omega
      have hq1 : (q : Int) < ((r * r : Nat) : Int) := by omega
      have HQ := Lib.hid (show j * r + j = q from by rw [hp, hq])
      clear hp hq hpl hp1 hrr
      go_wp2_with fail
      go_roundw
      case rel =>
        refine ⟨j + 1, by simp, hjr, ?_⟩
        have h := (H4.out.set hjr hjr 1).congr (m' := oneM (j + 1)) fun i _ k _ => oneM_next j i k
        rw [HQ.out] at h
        exact h
      case measure => simp [intOf]; omega
    · obtain rfl : r = j := by omega
      have hjn : ¬ (r : Int) < n := by omega
      obtain ⟨⟨c0, c1, c2⟩, _⟩ := H4.out.cells (.head _)
      obtain ⟨⟨d0, d1, d2⟩, f0, f1, f2⟩ := H4.out.cells (.tail _ (.head _))
      go_wp2_with fail
      obtain ⟨h1, h2, e0, e1, e2⟩ := H4.out.end_ (.tail _ (.head _)) (.int .i64 (r : Int)) (.int .i64 (r : Int)) (.slice (some ⟨g, 0, none⟩) (r * r) (r * r))
      refine bodyPost_ret (v := .agg #[.int .i64 (r : Int), .int .i64 (r : Int), .slice (some ⟨g, 0, none⟩) (r * r) (r * r)]) (by simp [results, Try.results32, go_sem, e0, e1, e2]) rfl ?_
      refine ⟨some ⟨g, 0, none⟩, r * r, rfl, Nat.le_refl _, ?_, h1⟩
      rw [flat_congr (m' := idm) fun i hi k _ => by unfold oneM idm; simp [hi]] at h2
      exact h2
end Go.Proofs.Ythdapoipfnnaeaa.MxW
/- The document's Symmetric. -/
namespace Go.Proofs.Ythdapoipfnnaeaa.MxW
open Go.RowKit Go.Shelf Mem Gf FdW Mx Rng
open PlW (In)
set_option linter.unusedVariables false
set_option linter.unusedSectionVars false
attribute [local go_sem] Oper.semAt_some wide_fn
set_option maxRecDepth 100000 in
set_option maxHeartbeats 4000000 in
theorem rsym_ok (w : World) (n : Nat) (hn : n ≤ 100) (A : Option Addr) (b : List UInt8) (l cap : Nat) (hl : b.length = l) (h2l : 2 * l = n * (n + 1)) (hA : Bytes w w.heap.size A b) :
    Calls Try.prog 31 #[.int .i64 (n : Int), .slice A l cap] w (NewT w n n (symM n b)) := by
  obtain ⟨P, hP⟩ : ∃ P : Int, (n : Int) * ((n : Int) + 1) = P := ⟨_, rfl⟩
  have hP2 : P = 2 * (l : Int) := by rw [← hP]; have : ((n * (n + 1) : Nat) : Int) = ((2 * l : Nat) : Int) := by rw [h2l]
                                     push_cast at this; omega
  have hl9 : (l : Int) ≤ 10000 := by have h1 : n * (n + 1) ≤ 100 * 101 := Nat.mul_le_mul hn (by omega)
                                     omega
  have q1 : IntKind.i64.wrap ((n : Int) + 1) = (n : Int) + 1 := by rw [IntWalk.i64_in _ (by omega)]
  have q2 : IntKind.i64.wrap P = P := by rw [IntWalk.i64_in _ (by omega)]
  have q3 : P.tdiv 2 = (l : Int) := by rw [Int.tdiv_eq_ediv_of_nonneg (by omega)]; omega
  have q4 : IntKind.i64.wrap (l : Int) = (l : Int) := by rw [IntWalk.i64_in _ (by omega)]
  have q5 : ¬ (n : Int) < 0 := by omega
  have q6 : ¬ (65536 : Int) < (n : Int) := by omega
  have HN := Lib.hid (show n ≤ 100 ∧ b.length = offS n n ∧ (l : Int) ≤ 10000 ∧ b.length = l from ⟨hn, by have := offS_len n; omega, hl9, hl⟩)
  have HA := Lib.hid hA
  have H0 := Lib.hid (BS.start w)
  have H1 := Lib.hid (H0.out.put #[.int .i64 0, .int .i64 0, .slice none 0 0] 38 (by decide))
  clear hP2 hl9 hA h2l hn
  go_enter Try.func31, Try.ntmps31
  go_wp2_with fail
  obtain ⟨g0, hg0⟩ : ∃ x, w.heap.size = x := ⟨_, rfl⟩
  generalize w.alloc (.cells #[.int .i64 0, .int .i64 0, .slice none 0 0] 38) = w1 at *
  rw [hg0] at H1 ⊢
  refine (rnone_any w1 (n) (n) (by have h1 : n * n ≤ 100 * 100 := Nat.mul_le_mul (HN.out.1) (HN.out.1); omega)).mono ?_
  rintro e w2 ⟨g, rfl, ho, hb⟩
  have H2 := Lib.hid (H1.out.none_ (g := g) (cap := n * n) (r := n) (c := n) (m := fun _ _ => 0) (show Wm w2 w.heap.size g (n * n) (n) (n) _ from ho.down H1.out.below.size) hb)
  clear ho hb q1 q2 q3 q4 q5 q6 hP hl
  have H3 := Lib.hid (H2.out.put (mcells (n) (n) (some ⟨g, 0, none⟩) (n * n) (n * n)) 38 (by decide))
  go_wp2_with fail
  obtain ⟨gm, hgm⟩ : ∃ x, w2.heap.size = x := ⟨_, rfl⟩
  obtain ⟨w3, hw3⟩ : ∃ x : World, w2.alloc (.cells #[.int .i64 (n : Int), .int .i64 (n : Int), .slice (some ⟨g, 0, none⟩) (n * n) (n * n)] 38) = x := ⟨_, rfl⟩
  have hw3' : w2.alloc (.cells (mcells (n) (n) (some ⟨g, 0, none⟩) (n * n) (n * n)) 38) = w3 := hw3
  rw [hw3', hgm] at H3
  rw [hw3, hgm]
  clear hw3 hw3' hgm
  go_loopw [7, 8] (fun a i wr => ∃ j : Nat, i = .int .i64 (j : Int) ∧ a = .int .i64 (offS n j : Int) ∧ j ≤ n ∧ WS w [(gm, 38, mcells n n (some ⟨g, 0, none⟩) (n * n) (n * n)), (g0, 38, #[.int .i64 0, .int .i64 0, .slice none 0 0])] g (n * n) n n (symUp n b j j) wr) (fun _ i _ => n - (intOf i).toNat)
  case atStart => exact ⟨0, rfl, rfl, Nat.zero_le _, H3.out.congr fun i _ k _ => by unfold symUp; rw [if_neg (by omega)]⟩
  case round =>
    obtain ⟨i, rfl, rfl, hi, h⟩ := hrel
    have H4 := Lib.hid h
    clear h H3
    obtain ⟨w4, rfl⟩ : ∃ w4 : World, w4 = wr := ⟨_, rfl⟩
    by_cases hin : i < n
    · have hi1 : (i : Int) < (n : Int) := by omega
      have hwi : IntKind.i64.wrap ((i : Int) + 1) = ((i + 1 : Nat) : Int) := by have := HN.out.1; rw [IntWalk.i64_in _ (by omega)]; omega
      have HI := Lib.hid hin
      go_wp2_with fail
      go_loopw [7, 9] (fun a k wr => ∃ j : Nat, k = .int .i64 (j : Int) ∧ a = .int .i64 ((offS n i + (j - i) : Nat) : Int) ∧ i ≤ j ∧ j ≤ n ∧ WS w [(gm, 38, mcells n n (some ⟨g, 0, none⟩) (n * n) (n * n)), (g0, 38, #[.int .i64 0, .int .i64 0, .slice none 0 0])] g (n * n) n n (symUp n b i j) wr) (fun _ k _ => n - (intOf k).toNat)
      case atStart => exact ⟨i, rfl, by rw [Nat.sub_self, Nat.add_zero], Nat.le_refl _, hi, H4.out⟩
      case round =>
        obtain ⟨j, rfl, rfl, hij, hj, h⟩ := hrel
        have H5 := Lib.hid h
        clear h
        obtain ⟨w5, rfl⟩ : ∃ w5 : World, w5 = wr := ⟨_, rfl⟩
        by_cases hjn : j < n
        · have hj1 : (j : Int) < (n : Int) := by omega
          have hj0 : (0 : Int) ≤ (j : Int) := by omega
          obtain ⟨at_, hat⟩ : ∃ at_, offS n i + (j - i) = at_ := ⟨_, rfl⟩
          have HAT := Lib.hid (show at_ < b.length ∧ (at_ : Int) < (l : Int) ∧ offS n i + (j - i) = at_ from by have h1 := offS_lt hin hij hjn; have h2 := HN.out; omega)
          rw [hat]
          have ha0 : (0 : Int) ≤ (at_ : Int) := by omega
          have ha1 : (at_ : Int) < (l : Int) := HAT.out.2.1
          obtain ⟨ab, ob, rfl, _, _⟩ := HA.out.at_ (k := at_) HAT.out.1
          obtain ⟨x, hx⟩ : ∃ x, b[at_]'HAT.out.1 = x := ⟨_, rfl⟩
          have HX := Lib.hid (show ∀ W : World, Below w.heap.size w W → W.cell? ⟨ab, ob + at_, none⟩ = some (.int .u8 (x.toNat : Int)) from fun W hW => by
            obtain ⟨b', o', e', _, hc⟩ := (HA.out.below hW).at_ (k := at_) HAT.out.1
            injection e' with e'; injection e' with e1 e2; subst e1; subst e2
            rw [hx] at hc; exact hc)
          have HXB := Lib.hid (show b.getD (offS n i + (j - i)) 0 = x from by rw [hat, List.getD_eq_getElem?_getD, List.getElem?_eq_getElem HAT.out.1, hx]; rfl)
          obtain ⟨q, hq⟩ : ∃ q, i * n + j = q := ⟨_, rfl⟩
          obtain ⟨s, hs⟩ : ∃ s, j * n + i = s := ⟨_, rfl⟩
          obtain ⟨p1, hp1⟩ : ∃ p1, i * n = p1 := ⟨_, rfl⟩
          obtain ⟨p2, hp2⟩ : ∃ p2, j * n = p2 := ⟨_, rfl⟩
          have HQ := Lib.hid hq
          have HS := Lib.hid hs
          have hql : q < n * n := by rw [← hq]; exact idx_lt hin hjn
          have hsl : s < n * n := by rw [← hs]; exact idx_lt hjn hin
          have hnn : n * n ≤ 100 * 100 := Nat.mul_le_mul HN.out.1 HN.out.1
          have hw1 : IntKind.i64.wrap ((i : Int) * (n : Int)) = (p1 : Int) := by rw [show (i : Int) * (n : Int) = (p1 : Int) by rw [← hp1]; simp, IntWalk.i64_in _ (by omega)]
          have hw2 : IntKind.i64.wrap ((p1 : Int) + (j : Int)) = (q : Int) := by rw [IntWalk.i64_in _ (by omega)]; omega
          have hw3 : IntKind.i64.wrap ((j : Int) * (n : Int)) = (p2 : Int) := by rw [show (j : Int) * (n : Int) = (p2 : Int) by rw [← hp2]; simp, IntWalk.i64_in _ (by omega)]
          have hw4 : IntKind.i64.wrap ((p2 : Int) + (i : Int)) = (s : Int) := by rw [IntWalk.i64_in _ (by omega)]; omega
          have hw5 : IntKind.i64.wrap ((at_ : Int) + 1) = ((at_ + 1 : Nat) : Int) := by have := HN.out.2.2.1; rw [IntWalk.i64_in _ (by omega)]; omega
          have hw6 : IntKind.i64.wrap ((j : Int) + 1) = ((j + 1 : Nat) : Int) := by have := HN.out.1; rw [IntWalk.i64_in _ (by omega)]; omega
          have hq0 : (0 : Int) ≤ (q : Int) := by omega
          have hq1 : (q : Int) < ((n * n : Nat) : Int) := by omega
          have hs0 : (0 : Int) ≤ (s : Int) := by omega
          have hs1 : (s : Int) < ((n * n : Nat) : Int) := by omega
          have HJ := Lib.hid (And.intro hjn hij)
          have hrr0 : (q : Int) < (n : Int) * (n : Int) := by have : ((n * n : Nat) : Int) = (n : Int) * (n : Int) := by simp
                                                              omega
          have hrr1 : (s : Int) < (n : Int) * (n : Int) := by have : ((n * n : Nat) : Int) = (n : Int) * (n : Int) := by simp
                                                              omega
          clear hq hs hp1 hp2 hx hat hql hsl hnn hij hj hq1 hs1
          go_wp2_with fail
          refine wp_region_noPanic ?_
          refine wp_heldG (fun w' => (w'.cell? ⟨gm, 0, none⟩ = some (.int .i64 (n : Int)) ∧ w'.cell? ⟨gm, 1, none⟩ = some (.int .i64 (n : Int)) ∧ w'.cell? ⟨gm, 2, none⟩ = some (.slice (some ⟨g, 0, none⟩) (n * n) (n * n))) ∧ w'.cell? ⟨ab, ob + at_, none⟩ = some (.int .u8 (x.toNat : Int))) [12] (by kernel_rfl) ?hs0 ?rg0
          case hs0 =>
            have h := H5.out.keep (nextN (Mem.start _) 1)
            exact ⟨(h.cells (.head _)).1, HX.out _ h.below⟩
          case rg0 =>
          intro hHeld
          refine wpAnyG_pure (i := 0) (oi := { dst := some 41, op := Op.fieldAddr 38 (Operand.tmp 6) 2, type := 0, pos := _, after := #[], guard := none }) (v := ?_) rfl (by kernel_rfl) (by kernel_rfl) (by kernel_rfl) (by kernel_rfl) (fun _ _ _ h => h) (Or.inl ⟨by rfl, ?_⟩) (fun _ => by assumption) ?_
          rotate_left
          · intro w hSw
            try dsimp only at hSw
            go_simp
            try with_reducible rfl
          try simp only [Act.put, List.setIfInBounds_toArray, List.set_cons_zero, List.set_cons_succ]
          refine wpAnyG_take (i := 1) (oi := { dst := some 42, op := Op.load 22 (Operand.tmp 41), type := 22, pos := _, after := #[{ on := 0, ground := Ground.data }], guard := none }) (v := ?_) rfl (by kernel_rfl) (by kernel_rfl) (by kernel_rfl) (by kernel_rfl) (fun _ _ _ h => h) (Or.inl ⟨by rfl, ?_⟩) (by assumption) ?_
          rotate_left
          · intro w hSw
            try dsimp only at hSw
            obtain ⟨⟨k0, k1, k2⟩, k3⟩ := hSw
            go_simp
            try with_reducible rfl
          try simp only [Act.put, List.setIfInBounds_toArray, List.set_cons_zero, List.set_cons_succ]
          refine wpAnyG_pure (i := 2) (oi := { dst := some 43, op := Op.move (Operand.tmp 8), type := 3, pos := _, after := #[], guard := none }) (v := ?_) rfl (by kernel_rfl) (by kernel_rfl) (by kernel_rfl) (by kernel_rfl) (fun _ _ _ h => h) (Or.inl ⟨by rfl, ?_⟩) (fun _ => by assumption) ?_
          rotate_left
          · intro w hSw
            try dsimp only at hSw
            go_simp
            try with_reducible rfl
          try simp only [Act.put, List.setIfInBounds_toArray, List.set_cons_zero, List.set_cons_succ]
          refine wpAnyG_pure (i := 3) (oi := { dst := some 44, op := Op.move (Operand.tmp 0), type := 3, pos := _, after := #[], guard := none }) (v := ?_) rfl (by kernel_rfl) (by kernel_rfl) (by kernel_rfl) (by kernel_rfl) (fun _ _ _ h => h) (Or.inl ⟨by rfl, ?_⟩) (fun _ => by assumption) ?_
          rotate_left
          · intro w hSw
            try dsimp only at hSw
            go_simp
            try with_reducible rfl
          try simp only [Act.put, List.setIfInBounds_toArray, List.set_cons_zero, List.set_cons_succ]
          refine wpAnyG_pure (i := 4) (oi := { dst := some 45, op := Op.binOp BinOp.mul 3 (Operand.tmp 43) (Operand.tmp 44) 3, type := 3, pos := _, after := #[{ on := 2, ground := Ground.data }, { on := 3, ground := Ground.data }], guard := none }) (v := ?_) rfl (by kernel_rfl) (by kernel_rfl) (by kernel_rfl) (by kernel_rfl) (fun _ _ _ h => h) (Or.inl ⟨by rfl, ?_⟩) (fun _ => by assumption) ?_
          rotate_left
          · intro w hSw
            try dsimp only at hSw
            go_simp
            try with_reducible rfl
          try simp only [Act.put, List.setIfInBounds_toArray, List.set_cons_zero, List.set_cons_succ]
          refine wpAnyG_pure (i := 5) (oi := { dst := some 46, op := Op.move (Operand.tmp 9), type := 3, pos := _, after := #[], guard := none }) (v := ?_) rfl (by kernel_rfl) (by kernel_rfl) (by kernel_rfl) (by kernel_rfl) (fun _ _ _ h => h) (Or.inl ⟨by rfl, ?_⟩) (fun _ => by assumption) ?_
          rotate_left
          · intro w hSw
            try dsimp only at hSw
            go_simp
            try with_reducible rfl
          try simp only [Act.put, List.setIfInBounds_toArray, List.set_cons_zero, List.set_cons_succ]
          refine wpAnyG_pure (i := 6) (oi := { dst := some 47, op := Op.binOp BinOp.add 3 (Operand.tmp 45) (Operand.tmp 46) 3, type := 3, pos := _, after := #[{ on := 4, ground := Ground.data }, { on := 5, ground := Ground.data }], guard := none }) (v := ?_) rfl (by kernel_rfl) (by kernel_rfl) (by kernel_rfl) (by kernel_rfl) (fun _ _ _ h => h) (Or.inl ⟨by rfl, ?_⟩) (fun _ => by assumption) ?_
          rotate_left
          · intro w hSw
            try dsimp only at hSw
            go_simp
            try with_reducible rfl
          try simp only [Act.put, List.setIfInBounds_toArray, List.set_cons_zero, List.set_cons_succ]
          refine wpAnyG_pure (i := 7) (oi := { dst := some 48, op := Op.move (Operand.tmp 1), type := 22, pos := _, after := #[], guard := none }) (v := ?_) rfl (by kernel_rfl) (by kernel_rfl) (by kernel_rfl) (by kernel_rfl) (fun _ _ _ h => h) (Or.inl ⟨by rfl, ?_⟩) (fun _ => by assumption) ?_
          rotate_left
          · intro w hSw
            try dsimp only at hSw
            go_simp
            try with_reducible rfl
          try simp only [Act.put, List.setIfInBounds_toArray, List.set_cons_zero, List.set_cons_succ]
          refine wpAnyG_pure (i := 8) (oi := { dst := some 49, op := Op.move (Operand.tmp 7), type := 3, pos := _, after := #[], guard := none }) (v := ?_) rfl (by kernel_rfl) (by kernel_rfl) (by kernel_rfl) (by kernel_rfl) (fun _ _ _ h => h) (Or.inl ⟨by rfl, ?_⟩) (fun _ => by assumption) ?_
          rotate_left
          · intro w hSw
            try dsimp only at hSw
            go_simp
            try with_reducible rfl
          try simp only [Act.put, List.setIfInBounds_toArray, List.set_cons_zero, List.set_cons_succ]
          refine wpAnyG_pure (i := 9) (oi := { dst := some 50, op := Op.indexAddr 22 (Operand.tmp 48) (Operand.tmp 49), type := 0, pos := _, after := #[{ on := 7, ground := Ground.data }, { on := 8, ground := Ground.data }], guard := none }) (v := ?_) rfl (by kernel_rfl) (by kernel_rfl) (by kernel_rfl) (by kernel_rfl) (fun _ _ _ h => h) (Or.inl ⟨by rfl, ?_⟩) (fun _ => by assumption) ?_
          rotate_left
          · intro w hSw
            try dsimp only at hSw
            go_simp
            try with_reducible rfl
          try simp only [Act.put, List.setIfInBounds_toArray, List.set_cons_zero, List.set_cons_succ]
          refine wpAnyG_take (i := 10) (oi := { dst := some 51, op := Op.load 5 (Operand.tmp 50), type := 5, pos := _, after := #[{ on := 9, ground := Ground.data }], guard := none }) (v := ?_) rfl (by kernel_rfl) (by kernel_rfl) (by kernel_rfl) (by kernel_rfl) (fun _ _ _ h => h) (Or.inl ⟨by rfl, ?_⟩) (by assumption) ?_
          rotate_left
          · intro w hSw
            try dsimp only at hSw
            obtain ⟨⟨k0, k1, k2⟩, k3⟩ := hSw
            go_simp
            try with_reducible rfl
          try simp only [Act.put, List.setIfInBounds_toArray, List.set_cons_zero, List.set_cons_succ]
          refine wpAnyG_pure (i := 11) (oi := { dst := some 52, op := Op.indexAddr 22 (Operand.tmp 42) (Operand.tmp 47), type := 0, pos := _, after := #[{ on := 1, ground := Ground.data }, { on := 6, ground := Ground.data }, { on := 0, ground := Ground.phase }, { on := 1, ground := Ground.phase }, { on := 2, ground := Ground.phase }, { on := 3, ground := Ground.phase }, { on := 4, ground := Ground.phase }, { on := 5, ground := Ground.phase }, { on := 6, ground := Ground.phase }, { on := 7, ground := Ground.phase }, { on := 8, ground := Ground.phase }, { on := 9, ground := Ground.phase }, { on := 10, ground := Ground.phase }], guard := none }) (v := ?_) rfl (by kernel_rfl) (by kernel_rfl) (by kernel_rfl) (by kernel_rfl) (fun _ _ _ h => h) (Or.inl ⟨by rfl, ?_⟩) (fun _ => by assumption) ?_
          rotate_left
          · intro w hSw
            try dsimp only at hSw
            go_simp
            try with_reducible rfl
          try simp only [Act.put, List.setIfInBounds_toArray, List.set_cons_zero, List.set_cons_succ]
          refine wpAnyG_one (i := 12) (o := { dst := none, op := Op.store 5 (Operand.tmp 52) (Operand.tmp 51), type := 0, pos := _, after := #[{ on := 11, ground := Ground.data }, { on := 10, ground := Ground.data }, { on := 0, ground := Ground.phase }, { on := 1, ground := Ground.phase }, { on := 2, ground := Ground.phase }, { on := 3, ground := Ground.phase }, { on := 4, ground := Ground.phase }, { on := 5, ground := Ground.phase }, { on := 6, ground := Ground.phase }, { on := 7, ground := Ground.phase }, { on := 8, ground := Ground.phase }, { on := 9, ground := Ground.phase }, { on := 10, ground := Ground.phase }], guard := none }) (by kernel_rfl) rfl (fun K hK => ?_)
          obtain ⟨s3, s4⟩ := (show WS _ _ _ _ _ _ _ w5.drew from H5.out.keep (nextN (Mem.start _) 1)).at_ HI.out HJ.out.1
          rw [HQ.out] at s3 s4
          go_simp
          try dsimp only
          refine hK.out _ _ ?_ (fun hHeld => ?_)
          · exact fun h => (st_no (by kernel_rfl) h).elim
          clear hK K
          try simp only [Act.put, List.setIfInBounds_toArray, List.set_cons_zero, List.set_cons_succ]
          clear hHeld
          refine wpAnyG_done (by kernel_rfl) ?_ _
          refine NoPanic.normal ?_
          have h := H5.out.set HI.out HJ.out.1 x
          rw [HQ.out] at h
          have H6 := Lib.hid (show WS _ _ _ _ _ _ _ (w5.setCell ⟨g, q, none⟩ (.int .u8 (x.toNat : Int))).drew from h.keep (nextN (Mem.start _) 1))
          clear h
          clear hHeld
          generalize (w5.setCell ⟨g, q, none⟩ (.int .u8 (x.toNat : Int))).drew = w6 at *
          go_wp2_with fail
          refine wp_region_noPanic ?_
          refine wp_heldG (fun w' => (w'.cell? ⟨gm, 0, none⟩ = some (.int .i64 (n : Int)) ∧ w'.cell? ⟨gm, 1, none⟩ = some (.int .i64 (n : Int)) ∧ w'.cell? ⟨gm, 2, none⟩ = some (.slice (some ⟨g, 0, none⟩) (n * n) (n * n))) ∧ w'.cell? ⟨ab, ob + at_, none⟩ = some (.int .u8 (x.toNat : Int))) [12] (by kernel_rfl) ?hs0 ?rg0
          case hs0 =>
            have h := H6.out.keep (nextN (Mem.start _) 1)
            exact ⟨(h.cells (.head _)).1, HX.out _ h.below⟩
          case rg0 =>
          intro hHeld
          refine wpAnyG_pure (i := 0) (oi := { dst := some 53, op := Op.fieldAddr 38 (Operand.tmp 6) 2, type := 0, pos := _, after := #[], guard := none }) (v := ?_) rfl (by kernel_rfl) (by kernel_rfl) (by kernel_rfl) (by kernel_rfl) (fun _ _ _ h => h) (Or.inl ⟨by rfl, ?_⟩) (fun _ => by assumption) ?_
          rotate_left
          · intro w hSw
            try dsimp only at hSw
            go_simp
            try with_reducible rfl
          try simp only [Act.put, List.setIfInBounds_toArray, List.set_cons_zero, List.set_cons_succ]
          refine wpAnyG_take (i := 1) (oi := { dst := some 54, op := Op.load 22 (Operand.tmp 53), type := 22, pos := _, after := #[{ on := 0, ground := Ground.data }], guard := none }) (v := ?_) rfl (by kernel_rfl) (by kernel_rfl) (by kernel_rfl) (by kernel_rfl) (fun _ _ _ h => h) (Or.inl ⟨by rfl, ?_⟩) (by assumption) ?_
          rotate_left
          · intro w hSw
            try dsimp only at hSw
            obtain ⟨⟨k0, k1, k2⟩, k3⟩ := hSw
            go_simp
            try with_reducible rfl
          try simp only [Act.put, List.setIfInBounds_toArray, List.set_cons_zero, List.set_cons_succ]
          refine wpAnyG_pure (i := 2) (oi := { dst := some 55, op := Op.move (Operand.tmp 9), type := 3, pos := _, after := #[], guard := none }) (v := ?_) rfl (by kernel_rfl) (by kernel_rfl) (by kernel_rfl) (by kernel_rfl) (fun _ _ _ h => h) (Or.inl ⟨by rfl, ?_⟩) (fun _ => by assumption) ?_
          rotate_left
          · intro w hSw
            try dsimp only at hSw
            go_simp
            try with_reducible rfl
          try simp only [Act.put, List.setIfInBounds_toArray, List.set_cons_zero, List.set_cons_succ]
          refine wpAnyG_pure (i := 3) (oi := { dst := some 56, op := Op.move (Operand.tmp 0), type := 3, pos := _, after := #[], guard := none }) (v := ?_) rfl (by kernel_rfl) (by kernel_rfl) (by kernel_rfl) (by kernel_rfl) (fun _ _ _ h => h) (Or.inl ⟨by rfl, ?_⟩) (fun _ => by assumption) ?_
          rotate_left
          · intro w hSw
            try dsimp only at hSw
            go_simp
            try with_reducible rfl
          try simp only [Act.put, List.setIfInBounds_toArray, List.set_cons_zero, List.set_cons_succ]
          refine wpAnyG_pure (i := 4) (oi := { dst := some 57, op := Op.binOp BinOp.mul 3 (Operand.tmp 55) (Operand.tmp 56) 3, type := 3, pos := _, after := #[{ on := 2, ground := Ground.data }, { on := 3, ground := Ground.data }], guard := none }) (v := ?_) rfl (by kernel_rfl) (by kernel_rfl) (by kernel_rfl) (by kernel_rfl) (fun _ _ _ h => h) (Or.inl ⟨by rfl, ?_⟩) (fun _ => by assumption) ?_
          rotate_left
          · intro w hSw
            try dsimp only at hSw
            go_simp
            try with_reducible rfl
          try simp only [Act.put, List.setIfInBounds_toArray, List.set_cons_zero, List.set_cons_succ]
          refine wpAnyG_pure (i := 5) (oi := { dst := some 58, op := Op.move (Operand.tmp 8), type := 3, pos := _, after := #[], guard := none }) (v := ?_) rfl (by kernel_rfl) (by kernel_rfl) (by kernel_rfl) (by kernel_rfl) (fun _ _ _ h => h) (Or.inl ⟨by rfl, ?_⟩) (fun _ => by assumption) ?_
          rotate_left
          · intro w hSw
            try dsimp only at hSw
            go_simp
            try with_reducible rfl
          try simp only [Act.put, List.setIfInBounds_toArray, List.set_cons_zero, List.set_cons_succ]
          refine wpAnyG_pure (i := 6) (oi := { dst := some 59, op := Op.binOp BinOp.add 3 (Operand.tmp 57) (Operand.tmp 58) 3, type := 3, pos := _, after := #[{ on := 4, ground := Ground.data }, { on := 5, ground := Ground.data }], guard := none }) (v := ?_) rfl (by kernel_rfl) (by kernel_rfl) (by kernel_rfl) (by kernel_rfl) (fun _ _ _ h => h) (Or.inl ⟨by rfl, ?_⟩) (fun _ => by assumption) ?_
          rotate_left
          · intro w hSw
            try dsimp only at hSw
            go_simp
            try with_reducible rfl
          try simp only [Act.put, List.setIfInBounds_toArray, List.set_cons_zero, List.set_cons_succ]
          refine wpAnyG_pure (i := 7) (oi := { dst := some 60, op := Op.move (Operand.tmp 1), type := 22, pos := _, after := #[], guard := none }) (v := ?_) rfl (by kernel_rfl) (by kernel_rfl) (by kernel_rfl) (by kernel_rfl) (fun _ _ _ h => h) (Or.inl ⟨by rfl, ?_⟩) (fun _ => by assumption) ?_
          rotate_left
          · intro w hSw
            try dsimp only at hSw
            go_simp
            try with_reducible rfl
          try simp only [Act.put, List.setIfInBounds_toArray, List.set_cons_zero, List.set_cons_succ]
          refine wpAnyG_pure (i := 8) (oi := { dst := some 61, op := Op.move (Operand.tmp 7), type := 3, pos := _, after := #[], guard := none }) (v := ?_) rfl (by kernel_rfl) (by kernel_rfl) (by kernel_rfl) (by kernel_rfl) (fun _ _ _ h => h) (Or.inl ⟨by rfl, ?_⟩) (fun _ => by assumption) ?_
          rotate_left
          · intro w hSw
            try dsimp only at hSw
            go_simp
            try with_reducible rfl
          try simp only [Act.put, List.setIfInBounds_toArray, List.set_cons_zero, List.set_cons_succ]
          refine wpAnyG_pure (i := 9) (oi := { dst := some 62, op := Op.indexAddr 22 (Operand.tmp 60) (Operand.tmp 61), type := 0, pos := _, after := #[{ on := 7, ground := Ground.data }, { on := 8, ground := Ground.data }], guard := none }) (v := ?_) rfl (by kernel_rfl) (by kernel_rfl) (by kernel_rfl) (by kernel_rfl) (fun _ _ _ h => h) (Or.inl ⟨by rfl, ?_⟩) (fun _ => by assumption) ?_
          rotate_left
          · intro w hSw
            try dsimp only at hSw
            go_simp
            try with_reducible rfl
          try simp only [Act.put, List.setIfInBounds_toArray, List.set_cons_zero, List.set_cons_succ]
          refine wpAnyG_take (i := 10) (oi := { dst := some 63, op := Op.load 5 (Operand.tmp 62), type := 5, pos := _, after := #[{ on := 9, ground := Ground.data }], guard := none }) (v := ?_) rfl (by kernel_rfl) (by kernel_rfl) (by kernel_rfl) (by kernel_rfl) (fun _ _ _ h => h) (Or.inl ⟨by rfl, ?_⟩) (by assumption) ?_
          rotate_left
          · intro w hSw
            try dsimp only at hSw
            obtain ⟨⟨k0, k1, k2⟩, k3⟩ := hSw
            go_simp
            try with_reducible rfl
          try simp only [Act.put, List.setIfInBounds_toArray, List.set_cons_zero, List.set_cons_succ]
          refine wpAnyG_pure (i := 11) (oi := { dst := some 64, op := Op.indexAddr 22 (Operand.tmp 54) (Operand.tmp 59), type := 0, pos := _, after := #[{ on := 1, ground := Ground.data }, { on := 6, ground := Ground.data }, { on := 0, ground := Ground.phase }, { on := 1, ground := Ground.phase }, { on := 2, ground := Ground.phase }, { on := 3, ground := Ground.phase }, { on := 4, ground := Ground.phase }, { on := 5, ground := Ground.phase }, { on := 6, ground := Ground.phase }, { on := 7, ground := Ground.phase }, { on := 8, ground := Ground.phase }, { on := 9, ground := Ground.phase }, { on := 10, ground := Ground.phase }], guard := none }) (v := ?_) rfl (by kernel_rfl) (by kernel_rfl) (by kernel_rfl) (by kernel_rfl) (fun _ _ _ h => h) (Or.inl ⟨by rfl, ?_⟩) (fun _ => by assumption) ?_
          rotate_left
          · intro w hSw
            try dsimp only at hSw
            go_simp
            try with_reducible rfl
          try simp only [Act.put, List.setIfInBounds_toArray, List.set_cons_zero, List.set_cons_succ]
          refine wpAnyG_one (i := 12) (o := { dst := none, op := Op.store 5 (Operand.tmp 64) (Operand.tmp 63), type := 0, pos := _, after := #[{ on := 11, ground := Ground.data }, { on := 10, ground := Ground.data }, { on := 0, ground := Ground.phase }, { on := 1, ground := Ground.phase }, { on := 2, ground := Ground.phase }, { on := 3, ground := Ground.phase }, { on := 4, ground := Ground.phase }, { on := 5, ground := Ground.phase }, { on := 6, ground := Ground.phase }, { on := 7, ground := Ground.phase }, { on := 8, ground := Ground.phase }, { on := 9, ground := Ground.phase }, { on := 10, ground := Ground.phase }], guard := none }) (by kernel_rfl) rfl (fun K hK => ?_)
          obtain ⟨s3, s4⟩ := (show WS _ _ _ _ _ _ _ w6.drew from H6.out.keep (nextN (Mem.start _) 1)).at_ HJ.out.1 HI.out
          rw [HS.out] at s3 s4
          go_simp
          try dsimp only
          refine hK.out _ _ ?_ (fun hHeld => ?_)
          · exact fun h => (st_no (by kernel_rfl) h).elim
          clear hK K
          try simp only [Act.put, List.setIfInBounds_toArray, List.set_cons_zero, List.set_cons_succ]
          clear hHeld
          refine wpAnyG_done (by kernel_rfl) ?_ _
          refine NoPanic.normal ?_
          have h := H6.out.set HJ.out.1 HI.out x
          rw [HS.out] at h
          have H7 := Lib.hid (show WS _ _ _ _ _ _ _ (w6.setCell ⟨g, s, none⟩ (.int .u8 (x.toNat : Int))).drew from h.keep (nextN (Mem.start _) 1))
          clear h
          clear hHeld
          generalize (w6.setCell ⟨g, s, none⟩ (.int .u8 (x.toNat : Int))).drew = w7 at *
          go_wp2_with fail
          go_roundw
          case rel =>
            refine ⟨j + 1, by simp, ?_, by have := HJ.out.2; omega, HJ.out.1, H7.out.congr fun a _ c _ => ?_⟩
            · rw [show offS n i + (j + 1 - i) = at_ + 1 by have h1 := HAT.out.2.2; have h2 := HJ.out.2; omega]; simp
            · have h := sym_step n b HJ.out.2 a c
              rw [HXB.out] at h
              exact h
          case measure => simp [intOf]; omega
        · obtain rfl : n = j := by omega
          go_wp2_with fail
          go_roundw
          case rel => exact ⟨i + 1, by simp, rfl, hin, H5.out.congr fun a ha c hc => sym_next n b i a c ha hc⟩
          case measure => simp [intOf]; omega
    · obtain rfl : n = i := by omega
      obtain ⟨⟨c0, c1, c2⟩, _⟩ := H4.out.cells (.head _)
      obtain ⟨⟨d0, d1, d2⟩, f0, f1, f2⟩ := H4.out.cells (.tail _ (.head _))
      go_wp2_with fail
      obtain ⟨h1, h2, e0, e1, e2⟩ := H4.out.end_ (.tail _ (.head _)) (.int .i64 (n : Int)) (.int .i64 (n : Int)) (.slice (some ⟨g, 0, none⟩) (n * n) (n * n))
      refine bodyPost_ret (v := .tuple #[.agg #[.int .i64 (n : Int), .int .i64 (n : Int), .slice (some ⟨g, 0, none⟩) (n * n) (n * n)], .int .i64 0]) (by simp [results, Try.results31, go_sem, e0, e1, e2]) rfl ?_
      refine ⟨some ⟨g, 0, none⟩, n * n, rfl, Nat.le_refl _, ?_, h1⟩
      rw [flat_congr (m' := symM n b) fun a ha c hc => by unfold symUp; rw [if_pos (.inl (by omega))]] at h2
      exact h2
set_option maxRecDepth 100000 in
set_option maxHeartbeats 4000000 in
theorem rsym_bad (w : World) (n : Int) (A : Option Addr) (l cap : Nat) (hn : -9223372036854775808 ≤ n ∧ n ≤ 9223372036854775807) (h : n < 0 ∨ 65536 < n ∨ (0 ≤ n ∧ n ≤ 65536 ∧ (l : Int) ≠ n * (n + 1) / 2)) :
    Calls Try.prog 31 #[.int .i64 n, .slice A l cap] w (ErrM w 50) := by
  have H0 := Lib.hid (BS.start w)
  have H1 := Lib.hid (H0.out.put #[.int .i64 0, .int .i64 0, .slice none 0 0] 38 (by decide))
  obtain ⟨⟨d0, d1, d2⟩, f0, f1, f2⟩ := H1.out.cells (.head _)
  rcases h with h | h | ⟨h1, h2, h3⟩
  · skip
    go_enter Try.func31, Try.ntmps31
    go_wp2_with fail
    exact bodyPost_ret (v := .tuple #[.agg #[.int .i64 0, .int .i64 0, .slice none 0 0], .int .i64 50]) (by simp [results, Try.results31, go_sem, d0, d1, d2]) rfl ⟨rfl, H1.out.below⟩
  · have h' : ¬ n < 0 := by omega
    skip
    go_enter Try.func31, Try.ntmps31
    go_wp2_with fail
    exact bodyPost_ret (v := .tuple #[.agg #[.int .i64 0, .int .i64 0, .slice none 0 0], .int .i64 50]) (by simp [results, Try.results31, go_sem, d0, d1, d2]) rfl ⟨rfl, H1.out.below⟩
  · have h' : ¬ n < 0 := by omega
    have h2' : ¬ (65536 : Int) < n := by omega
    have q1 : IntKind.i64.wrap (n + 1) = n + 1 := by rw [IntWalk.i64_in _ (by omega)]
    obtain ⟨P, hP⟩ : ∃ P : Int, n * (n + 1) = P := ⟨_, rfl⟩
    have hP2 : 0 ≤ P ∧ P ≤ 4295032832 := by
      obtain ⟨k, rfl⟩ : ∃ k : Nat, n = (k : Int) := ⟨n.toNat, by omega⟩
      have h4 : k * (k + 1) ≤ 65536 * 65537 := Nat.mul_le_mul (by omega) (by omega)
      rw [← hP]
      have h5 : ((k * (k + 1) : Nat) : Int) = (k : Int) * ((k : Int) + 1) := by simp
      omega
    have q2 : IntKind.i64.wrap P = P := by rw [IntWalk.i64_in _ (by omega)]
    have q3 : P.tdiv 2 = P / 2 := Int.tdiv_eq_ediv_of_nonneg hP2.1
    have q4 : IntKind.i64.wrap (P / 2) = P / 2 := by rw [IntWalk.i64_in _ (by omega)]
    rw [hP] at h3
    obtain ⟨Q, hQ⟩ : ∃ Q, P / 2 = Q := ⟨_, rfl⟩
    rw [hQ] at q3 q4 h3
    have h3' : ((l : Int) != Q) = true := by rw [bne_iff_ne]; exact h3
    clear hQ hP2 h3
    go_enter Try.func31, Try.ntmps31
    go_wp2_with fail
    exact bodyPost_ret (v := .tuple #[.agg #[.int .i64 0, .int .i64 0, .slice none 0 0], .int .i64 50]) (by simp [results, Try.results31, go_sem, d0, d1, d2]) rfl ⟨rfl, H1.out.below⟩
end Go.Proofs.Ythdapoipfnnaeaa.MxW
/- The document's Powers. -/
namespace Go.Proofs.Ythdapoipfnnaeaa.MxW
open Go.RowKit Go.Shelf Mem Gf FdW Mx Rng
open PlW (In)
set_option linter.unusedVariables false
set_option linter.unusedSectionVars false
attribute [local go_sem] Oper.semAt_some wide_fn

/-- A matrix whose bytes are put one behind another: its box gm, its bytes. -/
structure AS (w0 : World) (Y : List (Nat × TypeId × Array Value)) (gm : Nat) (R C : Int) (A : Option Addr) (cap : Nat) (l : List UInt8) (w : World) : Prop where
  bs : BS w0 Y w
  var : Blk w gm 38 #[.int .i64 R, .int .i64 C, .slice A l.length cap]
  row : Mem.Own w w0.heap.size 5 A cap (l.map u8v)
  far : w0.heap.size ≤ gm ∧ ∀ y ∈ Y, y.1 ≠ gm
section
variable {w0 w w' : World} {Y : List (Nat × TypeId × Array Value)} {gm : Nat} {R C : Int} {A : Option Addr} {cap : Nat} {l : List UInt8}
theorem AS.keep (h : AS w0 Y gm R C A cap l w) (hb : Below w.heap.size w w') : AS w0 Y gm R C A cap l w' := ⟨h.bs.keep hb, h.var.keep hb, h.row.keep hb, h.far⟩
theorem AS.cells (h : AS w0 Y gm R C A cap l w) : (w.cell? ⟨gm, 0, none⟩ = some (.int .i64 R) ∧ w.cell? ⟨gm, 1, none⟩ = some (.int .i64 C) ∧ w.cell? ⟨gm, 2, none⟩ = some (.slice A l.length cap)) ∧ w.frozen? ⟨gm, 0, none⟩ = false ∧ w.frozen? ⟨gm, 1, none⟩ = false ∧ w.frozen? ⟨gm, 2, none⟩ = false := cells3 h.var
/-- Bytes put behind it, in another world; the box is still to be written. -/
structure AA (w0 : World) (Y : List (Nat × TypeId × Array Value)) (gm : Nat) (R C : Int) (A : Option Addr) (cap n : Nat) (A' : Option Addr) (cap' : Nat) (l' : List UInt8) (w : World) : Prop where
  bs : BS w0 Y w
  var : Blk w gm 38 #[.int .i64 R, .int .i64 C, .slice A n cap]
  row : Mem.Own w w0.heap.size 5 A' cap' (l'.map u8v)
  far : w0.heap.size ≤ gm ∧ ∀ y ∈ Y, y.1 ≠ gm
theorem AS.app (h : AS w0 Y gm R C A cap l w) {l' : List UInt8} {A' : Option Addr} {cap' : Nat} (ho : Mem.Own w' w0.heap.size 5 A' cap' (l'.map u8v)) (hb : Below w0.heap.size w w') (hg : w.grownBy w' (A.map (·.block))) : AA w0 Y gm R C A cap l.length A' cap' l' w' :=
  ⟨⟨h.bs.below.trans hb, fun y hy => ⟨(h.bs.box y hy).1.app h.row (h.bs.box y hy).2.1 hg, (h.bs.box y hy).2⟩⟩, h.var.app h.row (by decide) hg, ho, h.far⟩
theorem AA.keep {n : Nat} {A' : Option Addr} {cap' : Nat} {l' : List UInt8} (h : AA w0 Y gm R C A cap n A' cap' l' w) (hb : Below w.heap.size w w') : AA w0 Y gm R C A cap n A' cap' l' w' := ⟨h.bs.keep hb, h.var.keep hb, h.row.keep hb, h.far⟩
theorem AA.cells {n : Nat} {A' : Option Addr} {cap' : Nat} {l' : List UInt8} (h : AA w0 Y gm R C A cap n A' cap' l' w) : w.cell? ⟨gm, 2, none⟩ = some (.slice A n cap) ∧ w.frozen? ⟨gm, 2, none⟩ = false := ⟨(cells3 h.var).1.2.2, (cells3 h.var).2.2.2⟩
theorem AA.set {n : Nat} {A' : Option Addr} {cap' : Nat} {l' : List UInt8} (h : AA w0 Y gm R C A cap n A' cap' l' w) : AS w0 Y gm R C A' cap' l' (w.setCell ⟨gm, 2, none⟩ (.slice A' l'.length cap')) := by
  have hf := setF (p := gm) w ⟨gm, 2, none⟩ rfl (.slice A' l'.length cap')
  refine ⟨⟨h.bs.below.trans (hf.below h.bs.below.size fun k hk => by rw [hk]; exact h.far.1), fun y hy => ⟨(h.bs.box y hy).1.fr hf (h.far.2 y hy), (h.bs.box y hy).2⟩⟩, h.var.set_ 2 _, Own.fr h.row hf fun g e e2 => ?_, h.far⟩
  exact h.var.ne_own h.row (by decide) g e e2
theorem AS.start (h : BS w0 Y w) (R C : Int) : AS w0 Y w.heap.size R C none 0 [] (w.alloc (.cells #[.int .i64 R, .int .i64 C, .slice none 0 0] 38)) :=
  ⟨h.keep (nextA (Mem.start w) _), Blk.new w _ _, Mem.Own.nil, h.below.size, fun y hy => by have := (h.box y hy).1.lt; omega⟩
theorem AS.end_ (h : AS w0 Y gm R C A cap l w) {b : Nat} {c0 c1 c2 : Value} (hy : (b, 38, #[c0, c1, c2]) ∈ Y) (v0 v1 v2 : Value) :
    let w' := (((w.setCell ⟨b, 0, none⟩ v0).setCell ⟨b, 1, none⟩ v1).setCell ⟨b, 2, none⟩ v2)
    Below w0.heap.size w0 w' ∧ Nw w0.heap.size w' A l ∧ w'.cell? ⟨b, 0, none⟩ = some v0 ∧ w'.cell? ⟨b, 1, none⟩ = some v1 ∧ w'.cell? ⟨b, 2, none⟩ = some v2 := by
  obtain ⟨h1, h2, h3⟩ := h.bs.end_ hy v0 v1 v2
  refine ⟨h1, Nw.of_own (Own.fr h.row h2 fun g e e2 => ?_), h3⟩
  exact (h.bs.box _ hy).1.ne_own h.row (h.bs.box _ hy).2.1 g e e2
end
set_option maxRecDepth 100000 in
set_option maxHeartbeats 4000000 in
theorem rpow_any (w : World) (A : Option Addr) (xs : List UInt8) (n cap : Nat) (hn : xs.length = n) (cols : Int) (c : Nat) (hA : Bytes w w.heap.size A xs) (hr : n ≤ 1000) (hc : cols ≤ 1000) (hcc : max 0 cols = (c : Int)) :
    Calls Try.prog 33 #[.slice A n cap, .int .i64 cols] w (NewM w n c (powM xs)) := by
  obtain ⟨i0, hi0, hz0, hz1, hz2⟩ := info_parts u8info
  have HI0 := Lib.hid (And.intro hi0 (And.intro hz0 (And.intro hz1 hz2)))
  clear hi0 hz0 hz1 hz2
  have hc0 : 0 ≤ c ∧ c ≤ 1000 := by omega
  have HN := Lib.hid (show n ≤ 1000 ∧ c ≤ 1000 ∧ xs.length = n from ⟨hr, hc0.2, hn⟩)
  have HA := Lib.hid hA
  have H0 := Lib.hid (BS.start w)
  have H1 := Lib.hid (H0.out.put #[.int .i64 0, .int .i64 0, .slice none 0 0] 38 (by decide))
  have h1 : ¬ (65536 : Int) < (n : Int) := by omega
  have h2 : ¬ (65536 : Int) < cols := by omega
  clear hA hn
  go_enter Try.func33, Try.ntmps33
  by_cases hneg : cols < 0
  · obtain rfl : c = 0 := by omega
    have hneg' : ¬ (16777216 : Int) < 0 := by omega
    go_wp2_with fail
    obtain ⟨w1, hw1⟩ : ∃ x : World, w.alloc (.cells #[.int .i64 0, .int .i64 0, .slice none 0 0] 38) = x := ⟨_, rfl⟩
    rw [hw1] at H1
    have HS1 := Lib.hid (show w1.heap.size = w.heap.size + 1 from by rw [← hw1, World.size_alloc])
    have H2 := Lib.hid (AS.start H1.out (n : Int) 0)
    rw [HS1.out] at H2
    rw [hw1]
    generalize w1.alloc (.cells #[.int .i64 (n : Int), .int .i64 0, .slice none 0 0] 38) = w2 at *
    clear hw1 H1 HS1
    obtain ⟨gm, hgm⟩ : ∃ x, w.heap.size + 1 = x := ⟨_, rfl⟩
    rw [hgm] at H2 ⊢
    clear hgm
    go_loopw [6] (fun i wr => ∃ (j : Nat) (A2 : Option Addr) (c2 : Nat), i = .int .i64 (j : Int) ∧ j ≤ n ∧ AS w [(w.heap.size, 38, #[.int .i64 0, .int .i64 0, .slice none 0 0])] gm (n : Int) 0 A2 c2 (flat j 0 (powM xs)) wr) (fun i _ => n - (intOf i).toNat)
    case atStart => exact ⟨0, none, 0, rfl, Nat.zero_le _, by rw [flat_nil]; exact H2.out⟩
    case round =>
      obtain ⟨j, A2, c2, rfl, hj, h⟩ := hrel
      have H4 := Lib.hid h
      clear h H2
      obtain ⟨w4, rfl⟩ : ∃ w4 : World, w4 = wr := ⟨_, rfl⟩
      by_cases hjn : j < n
      · have hj1 : (j : Int) < (n : Int) := by omega
        have hj0 : (0 : Int) ≤ (j : Int) := by omega
        have hwj : IntKind.i64.wrap ((j : Int) + 1) = ((j + 1 : Nat) : Int) := by have := HN.out.1; rw [IntWalk.i64_in _ (by omega)]; omega
        have HJ := Lib.hid hjn
        obtain ⟨ab, ob, rfl, _, _⟩ := HA.out.at_ (k := j) (by rw [HN.out.2.2]; exact hjn)
        obtain ⟨x, hx⟩ : ∃ x, xs.getD j 0 = x := ⟨_, rfl⟩
        have HX := Lib.hid (show ∀ W : World, Below w.heap.size w W → W.cell? ⟨ab, ob + j, none⟩ = some (.int .u8 (x.toNat : Int)) from fun W hW => by
          obtain ⟨b', o', e', _, hc⟩ := (HA.out.below hW).at_ (k := j) (by rw [HN.out.2.2]; exact hjn)
          injection e' with e'; injection e' with e1 e2; subst e1; subst e2
          rw [← hx, List.getD_eq_getElem?_getD, List.getElem?_eq_getElem (by rw [HN.out.2.2]; exact hjn)]; exact hc)
        have HXE := Lib.hid hx
        clear hx
        go_wp2_with fail
        go_loopw [7, 8] (fun p k wr => ∃ (i : Nat) (A3 : Option Addr) (c3 : Nat), k = .int .i64 (i : Int) ∧ p = .int .u8 ((pow x (i : Int)).toNat : Int) ∧ i ≤ 0 ∧ AS w [(w.heap.size, 38, #[.int .i64 0, .int .i64 0, .slice none 0 0])] gm (n : Int) 0 A3 c3 (flat j 0 (powM xs) ++ row i (powM xs j)) wr) (fun _ k _ => 0 - (intOf k).toNat)
        case atStart => exact ⟨0, A2, c2, rfl, by rw [show ((0 : Nat) : Int) = 0 from rfl, pow_zero]; rfl, Nat.zero_le _, by rw [show row 0 (powM xs j) = [] from rfl, List.append_nil]; exact H4.out⟩
        case round =>
          obtain ⟨i, A3, c3, rfl, rfl, hi, h⟩ := hrel
          have H5 := Lib.hid h
          clear h
          obtain ⟨w5, rfl⟩ : ∃ w5 : World, w5 = wr := ⟨_, rfl⟩
          obtain rfl : i = 0 := by omega
          go_wp2_with fail
          go_roundw
          case rel => exact ⟨j + 1, A3, c3, by simp, HJ.out, by rw [flat_succ]; exact H5.out⟩
          case measure => simp [intOf]; omega
      · obtain rfl : j = n := by omega
        obtain ⟨⟨c0, c1, c2'⟩, _⟩ := H4.out.cells
        obtain ⟨⟨d0, d1, d2⟩, f0, f1, f2⟩ := H4.out.bs.cells (.head _)
        obtain ⟨lq, hlq⟩ : ∃ lq, (flat j 0 (powM xs)).length = lq := ⟨_, rfl⟩
        rw [hlq] at c2'
        have hfin := H4.out.end_ (.head _) (.int .i64 (j : Int)) (.int .i64 0) (.slice A2 lq c2)
        have HLQ := Lib.hid (hlq.symm.trans (flat_len _ _ _))
        have HL := Lib.hid (H4.out.row)
        go_wp2_with fail
        obtain ⟨h1, h2, e0, e1, e2⟩ := hfin
        refine bodyPost_ret (v := .agg #[.int .i64 (j : Int), .int .i64 0, .slice A2 lq c2]) (by simp [results, Try.results33, go_sem, e0, e1, e2]) rfl ?_
        have e9 := HLQ.out
        subst e9
        refine ⟨A2, c2, rfl, ?_, h2, h1⟩
        have h3 := HL.out.le
        rw [List.length_map, flat_len] at h3
        exact h3
  · obtain rfl : cols = (c : Int) := by omega
    have h4 : n * c ≤ 1000 * 1000 := Nat.mul_le_mul hr hc0.2
    have h3 : ¬ (16777216 : Int) < ((n * c : Nat) : Int) := by omega
    have h5 : IntKind.i64.wrap ((n : Int) * (c : Int)) = ((n * c : Nat) : Int) := by
      rw [show (n : Int) * (c : Int) = ((n * c : Nat) : Int) by simp, IntWalk.i64_in _ (by omega)]
    clear h4
    obtain ⟨q, hq⟩ : ∃ q, n * c = q := ⟨_, rfl⟩
    rw [hq] at h3 h5
    clear hq
    go_wp2_with fail
    obtain ⟨w1, hw1⟩ : ∃ x : World, w.alloc (.cells #[.int .i64 0, .int .i64 0, .slice none 0 0] 38) = x := ⟨_, rfl⟩
    rw [hw1] at H1
    have HS1 := Lib.hid (show w1.heap.size = w.heap.size + 1 from by rw [← hw1, World.size_alloc])
    have H2 := Lib.hid (AS.start H1.out (n : Int) (c : Int))
    rw [HS1.out] at H2
    rw [hw1]
    generalize w1.alloc (.cells #[.int .i64 (n : Int), .int .i64 (c : Int), .slice none 0 0] 38) = w2 at *
    clear hw1 H1 HS1
    obtain ⟨gm, hgm⟩ : ∃ x, w.heap.size + 1 = x := ⟨_, rfl⟩
    rw [hgm] at H2 ⊢
    clear hgm
    go_loopw [6] (fun i wr => ∃ (j : Nat) (A2 : Option Addr) (c2 : Nat), i = .int .i64 (j : Int) ∧ j ≤ n ∧ AS w [(w.heap.size, 38, #[.int .i64 0, .int .i64 0, .slice none 0 0])] gm (n : Int) (c : Int) A2 c2 (flat j c (powM xs)) wr) (fun i _ => n - (intOf i).toNat)
    case atStart => exact ⟨0, none, 0, rfl, Nat.zero_le _, by rw [flat_nil]; exact H2.out⟩
    case round =>
      obtain ⟨j, A2, c2, rfl, hj, h⟩ := hrel
      have H4 := Lib.hid h
      clear h H2
      obtain ⟨w4, rfl⟩ : ∃ w4 : World, w4 = wr := ⟨_, rfl⟩
      by_cases hjn : j < n
      · have hj1 : (j : Int) < (n : Int) := by omega
        have hj0 : (0 : Int) ≤ (j : Int) := by omega
        have hwj : IntKind.i64.wrap ((j : Int) + 1) = ((j + 1 : Nat) : Int) := by have := HN.out.1; rw [IntWalk.i64_in _ (by omega)]; omega
        have HJ := Lib.hid hjn
        obtain ⟨ab, ob, rfl, _, _⟩ := HA.out.at_ (k := j) (by rw [HN.out.2.2]; exact hjn)
        obtain ⟨x, hx⟩ : ∃ x, xs.getD j 0 = x := ⟨_, rfl⟩
        have HX := Lib.hid (show ∀ W : World, Below w.heap.size w W → W.cell? ⟨ab, ob + j, none⟩ = some (.int .u8 (x.toNat : Int)) from fun W hW => by
          obtain ⟨b', o', e', _, hc⟩ := (HA.out.below hW).at_ (k := j) (by rw [HN.out.2.2]; exact hjn)
          injection e' with e'; injection e' with e1 e2; subst e1; subst e2
          rw [← hx, List.getD_eq_getElem?_getD, List.getElem?_eq_getElem (by rw [HN.out.2.2]; exact hjn)]; exact hc)
        have HXE := Lib.hid hx
        clear hx
        go_wp2_with fail
        go_loopw [7, 8] (fun p k wr => ∃ (i : Nat) (A3 : Option Addr) (c3 : Nat), k = .int .i64 (i : Int) ∧ p = .int .u8 ((pow x (i : Int)).toNat : Int) ∧ i ≤ c ∧ AS w [(w.heap.size, 38, #[.int .i64 0, .int .i64 0, .slice none 0 0])] gm (n : Int) (c : Int) A3 c3 (flat j c (powM xs) ++ row i (powM xs j)) wr) (fun _ k _ => c - (intOf k).toNat)
        case atStart => exact ⟨0, A2, c2, rfl, by rw [show ((0 : Nat) : Int) = 0 from rfl, pow_zero]; rfl, Nat.zero_le _, by rw [show row 0 (powM xs j) = [] from rfl, List.append_nil]; exact H4.out⟩
        case round =>
          obtain ⟨i, A3, c3, rfl, rfl, hi, h⟩ := hrel
          have H5 := Lib.hid h
          clear h
          obtain ⟨w5, rfl⟩ : ∃ w5 : World, w5 = wr := ⟨_, rfl⟩
          by_cases hic : i < c
          · have hi1 : (i : Int) < (c : Int) := by omega
            have hi0 : (0 : Int) ≤ (i : Int) := by omega
            have hwi : IntKind.i64.wrap ((i : Int) + 1) = ((i + 1 : Nat) : Int) := by have := HN.out.2.1; rw [IntWalk.i64_in _ (by omega)]; omega
            obtain ⟨p, hp⟩ : ∃ p, pow x (i : Int) = p := ⟨_, rfl⟩
            rw [hp]
            have HP := Lib.hid (show pow x ((i + 1 : Nat) : Int) = mul p x from by rw [Mx.pow_rp, ← hp, Mx.pow_rp]; rfl)
            have HPM := Lib.hid (show powM xs j i = p from by unfold powM; rw [HXE.out, hp])
            have HIC := Lib.hid hic
            clear hp
            obtain ⟨len, hlen⟩ : ∃ len, (flat j c (powM xs) ++ row i (powM xs j)).length = len := ⟨_, rfl⟩
            have HLN := Lib.hid (show len = ((flat j c (powM xs) ++ row i (powM xs j)).map u8v).length ∧ len ≤ 2000000 from by
              refine ⟨by rw [List.length_map, hlen], ?_⟩
              rw [← hlen, List.length_append, flat_len, row_len]
              have h4 : j * c ≤ 1000 * 1000 := Nat.mul_le_mul (by have := HN.out.1; have := HJ.out; omega) HN.out.2.1
              have := HN.out.2.1
              omega)
            have HLN2 := Lib.hid (show (flat j c (powM xs) ++ row (i + 1) (powM xs j)).length = len + 1 from by rw [← hlen, List.length_append, List.length_append, row_len, row_len]; omega)
            have HLN3 := Lib.hid hlen
            obtain ⟨⟨k0, k1, k2⟩, _⟩ := H5.out.cells
            rw [hlen] at k2
            have hb1 := Mx_build1 w5 (p.toNat : Int)
            have HCO := Lib.hid (cells_one w5 (.int .u8 (p.toNat : Int)) 5 (w5.heap.size + 1) (by omega))
            have H6 := Lib.hid (H5.out.keep (nextA (Mem.start w5) (.cells #[.int .u8 (p.toNat : Int)] 5)))
            obtain ⟨hi0, hz0, hz1, hz2⟩ := HI0.out
            go_wp2_with ((with_reducible show wpList _ _ _ ((⟨some 44, _, _, _, _, _⟩ : Oper) :: _) _ _); refine wpList_app _ rfl _ _ _ rfl w.heap.size 5 i0 _ 1 Try.underlying22 hi0 hz0 hz1 hz2 rfl A3 c3 _ ((flat j c (powM xs) ++ row i (powM xs j)).map u8v) rfl HLN.out.1 H6.out.row _ _ _ 1 [.int .u8 (p.toNat : Int)] rfl rfl HCO.out (by simp [Value.oneCell']) (by rw [← HLN.out.1]; have := HLN.out.2; simp [maxLen]; omega) (by rw [← HLN.out.1]; have := HLN.out.2; simp; omega) H6.out.bs.below.size (len + 1) rfl ?_; intro A4 c4 w6 ho hb hg _; have H7 := Lib.hid (H6.out.app (l' := flat j c (powM xs) ++ row (i + 1) (powM xs j)) (by rw [row_succ, HPM.out, ← List.append_assoc, List.map_append]; exact ho) hb hg); clear ho hb hg; have h8 := H7.out.set; rw [HLN2.out] at h8; have H8 := Lib.hid h8; clear h8; obtain ⟨k3, k4⟩ := H7.out.cells; rw [HLN3.out] at k3; have hx := HX.out _ H8.out.bs.below)
            refine (refMul_any _ _ p x rfl rfl _).mono ?_
            rintro e w' ⟨rfl, rfl⟩
            go_wp2_with fail
            go_roundw
            case rel => exact ⟨i + 1, A4, c4, by simp, by rw [HP.out], HIC.out, H8.out⟩
            case measure => simp [intOf]; omega
          · obtain rfl : i = c := by omega
            go_wp2_with fail
            go_roundw
            case rel => exact ⟨j + 1, A3, c3, by simp, HJ.out, by rw [flat_succ]; exact H5.out⟩
            case measure => simp [intOf]; omega
      · obtain rfl : j = n := by omega
        obtain ⟨⟨c0, c1, c2'⟩, _⟩ := H4.out.cells
        obtain ⟨⟨d0, d1, d2⟩, f0, f1, f2⟩ := H4.out.bs.cells (.head _)
        obtain ⟨lq, hlq⟩ : ∃ lq, (flat j c (powM xs)).length = lq := ⟨_, rfl⟩
        rw [hlq] at c2'
        have hfin := H4.out.end_ (.head _) (.int .i64 (j : Int)) (.int .i64 (c : Int)) (.slice A2 lq c2)
        have HLQ := Lib.hid (hlq.symm.trans (flat_len _ _ _))
        have HL := Lib.hid (H4.out.row)
        go_wp2_with fail
        obtain ⟨h1, h2, e0, e1, e2⟩ := hfin
        refine bodyPost_ret (v := .agg #[.int .i64 (j : Int), .int .i64 (c : Int), .slice A2 lq c2]) (by simp [results, Try.results33, go_sem, e0, e1, e2]) rfl ?_
        have e9 := HLQ.out
        subst e9
        refine ⟨A2, c2, rfl, ?_, h2, h1⟩
        have h3 := HL.out.le
        rw [List.length_map, flat_len] at h3
        exact h3
end Go.Proofs.Ythdapoipfnnaeaa.MxW
/- Rows cut out of a matrix' bytes; the document's Pick. -/
namespace Go.Proofs.Ythdapoipfnnaeaa.MxW
open Go.RowKit Go.Shelf Mem Gf FdW Mx Rng
open PlW (In)
set_option linter.unusedVariables false
set_option linter.unusedSectionVars false
attribute [local go_sem] Oper.semAt_some wide_fn

def cutA (A : Option Addr) (cap lo : Nat) : Option Addr := if cap = lo then A else A.map (·.add lo)
theorem cut_run (W : World) (A : Option Addr) (n cap lo hi : Nat) (h : lo ≤ hi) (h2 : hi ≤ cap) (d e : Nat) (hd : hi - lo = d) (he : cap - lo = e) :
    (Instr.sliceAt 22 (.slice A n cap) (some (.int .i64 (lo : Int))) (some (.int .i64 (hi : Int))) none).run Try.prog W = .ok (.slice (cutA A cap lo) d e) W := by
  have a1 : (lo : Int) ≤ (hi : Int) := by omega
  have a2 : (hi : Int) ≤ (cap : Int) := by omega
  have a3 : (0 : Int) ≤ (lo : Int) := by omega
  have a4 : (0 : Int) ≤ (hi : Int) := by omega
  unfold cutA
  by_cases h3 : cap = lo
  · have a5 : hi ≤ lo := by omega
    obtain rfl : e = 0 := by omega
    go_simp
  · go_simp
theorem cut_bytes {w : World} {B : Nat} {A : Option Addr} {l : List UInt8} (h : Bytes w B A l) {cap lo k : Nat} (hl : lo + k ≤ l.length) (hc : l.length ≤ cap) : Bytes w B (cutA A cap lo) ((l.drop lo).take k) := by
  rcases Nat.eq_zero_or_pos k with rfl | hk
  · rw [List.take_zero]; exact Bytes.nil
  · obtain ⟨b, o, rfl, _⟩ := h.at_ (k := lo) (by omega)
    unfold cutA
    rw [if_neg (by omega), Option.map_some, addr_add]
    exact (h.drop lo).take k
theorem cut_row {w : World} {B r c i cap : Nat} {A : Option Addr} {m : M} (h : Bytes w B A (flat r c m)) (hi : i < r) (hc : r * c ≤ cap) : Bytes w B (cutA A cap (i * c)) (row c (m i)) := by
  rw [← flat_row hi]
  exact cut_bytes h (by rw [flat_len]; exact idx_le hi) (by rw [flat_len]; exact hc)
def i64v (v : Int) : Value := .int .i64 v
def allIn (r : Nat) (ks : List Int) : Bool := ks.all fun v => decide (0 ≤ v ∧ v < (r : Int))
def pickM (m : M) (ks : List Int) : M := fun i k => m (ks.getD i 0).toNat k
def PickOk (w : World) (n c : Nat) (m : M) (ok : Bool) (e : Ending) (w' : World) : Prop := (ok = true → NewT w n c m e w') ∧ (ok = false → ErrM w 2 e w')
set_option maxRecDepth 100000 in
set_option maxHeartbeats 4000000 in
theorem rpick_any (w : World) (r c : Nat) (A : Option Addr) (nn cap : Nat) (m : M) (K : Option Addr) (ks : List Int) (n ck : Nat) (hn : ks.length = n) (hnn : nn = r * c) (hd : r ≤ 100 ∧ c ≤ 100 ∧ n ≤ 100) (hcap : nn ≤ cap) (hA : Bytes w w.heap.size A (flat r c m)) (hK : Cells w w.heap.size K (ks.map i64v)) (h64 : ∀ v ∈ ks, -9223372036854775808 ≤ v ∧ v ≤ 9223372036854775807) :
    Calls Try.prog 29 #[.agg #[.int .i64 (r : Int), .int .i64 (c : Int), .slice A nn cap], .slice K n ck] w (PickOk w n c (pickM m ks) (allIn r ks)) := by
  obtain ⟨i0, hi0, hz0, hz1, hz2⟩ := info_parts u8info
  have HI0 := Lib.hid (And.intro hi0 (And.intro hz0 (And.intro hz1 hz2)))
  clear hi0 hz0 hz1 hz2
  have HN := Lib.hid (And.intro hd (And.intro hn (And.intro hnn hcap)))
  have HA := Lib.hid hA
  have HK := Lib.hid hK
  have H64 := Lib.hid h64
  have h1 : ¬ (65536 : Int) < (n : Int) := by omega
  have hnc : n * c ≤ 100 * 100 := Nat.mul_le_mul hd.2.2 hd.2.1
  obtain ⟨q, hq⟩ : ∃ q, n * c = q := ⟨_, rfl⟩
  have h2 : ¬ (16777216 : Int) < (q : Int) := by omega
  have h3 : IntKind.i64.wrap ((n : Int) * (c : Int)) = (q : Int) := by
    rw [show (n : Int) * (c : Int) = (q : Int) by rw [← hq]; simp, IntWalk.i64_in _ (by omega)]
  have HR := Lib.hid (show rightB (r : Int) (c : Int) nn = true from right_dim ⟨hd.1, hd.2.1⟩ hnn)
  have H0 := Lib.hid (((BS.start w).put (mcells r c A nn cap) 38 (by decide)).put #[.int .i64 0, .int .i64 0, .slice none 0 0] 38 (by decide))
  clear hA hK h64 hnc hq hn hnn hd hcap
  go_enter Try.func29, Try.ntmps29
  obtain ⟨⟨a0, a1, a2⟩, _⟩ := H0.out.cells (.tail _ (.head _))
  go_wp2_with fail
  clear a0 a1 a2
  obtain ⟨w1, hw1⟩ : ∃ x : World, (w.alloc (.cells #[.int .i64 (r : Int), .int .i64 (c : Int), .slice A nn cap] 38)).alloc (.cells #[.int .i64 0, .int .i64 0, .slice none 0 0] 38) = x := ⟨_, rfl⟩
  have hw1' : (w.alloc (.cells (mcells r c A nn cap) 38)).alloc (.cells #[.int .i64 0, .int .i64 0, .slice none 0 0] 38) = w1 := hw1
  rw [hw1', World.size_alloc] at H0
  rw [hw1]
  clear hw1 hw1'
  obtain ⟨ga, hga⟩ : ∃ x, w.heap.size = x := ⟨_, rfl⟩
  obtain ⟨g0, hg0⟩ : ∃ x, ga + 1 = x := ⟨_, rfl⟩
  rw [hga, hg0] at H0 ⊢
  refine (rright_any w1 _ _ A nn cap).mono ?_
  rintro e w2 ⟨rfl, hb⟩
  rw [HR.out]
  have H1 := Lib.hid (H0.out.keep hb)
  clear hb H0
  obtain ⟨⟨a0, a1, a2⟩, _⟩ := H1.out.cells (.tail _ (.head _))
  have H2 := Lib.hid (AS.start H1.out (n : Int) (c : Int))
  go_wp2_with fail
  clear a0 a1 a2 h1 h2 h3
  obtain ⟨gm, hgm⟩ : ∃ x, w2.heap.size = x := ⟨_, rfl⟩
  rw [hgm] at H2 ⊢
  clear hgm
  generalize w2.alloc (.cells #[.int .i64 (n : Int), .int .i64 (c : Int), .slice none 0 0] 38) = w3 at *
  go_loopw [7] (fun i wr => ∃ (j : Nat) (A2 : Option Addr) (c2 : Nat), i = .int .i64 (j : Int) ∧ j ≤ n ∧ (∀ i, i < j → 0 ≤ ks.getD i 0 ∧ ks.getD i 0 < (r : Int)) ∧ AS w [(g0, 38, #[.int .i64 0, .int .i64 0, .slice none 0 0]), (ga, 38, mcells r c A nn cap)] gm (n : Int) (c : Int) A2 c2 (flat j c (pickM m ks)) wr) (fun i _ => n - (intOf i).toNat)
  case atStart => exact ⟨0, none, 0, rfl, Nat.zero_le _, fun i hi => absurd hi (Nat.not_lt_zero _), by rw [flat_nil]; exact H2.out⟩
  case round =>
    obtain ⟨j, A2, c2, rfl, hj, hin, h⟩ := hrel
    have H4 := Lib.hid h
    have HIN := Lib.hid hin
    clear h H2 hin
    obtain ⟨w4, rfl⟩ : ∃ w4 : World, w4 = wr := ⟨_, rfl⟩
    by_cases hjn : j < n
    · have hj1 : (j : Int) < (n : Int) := by omega
      have hj0 : (0 : Int) ≤ (j : Int) := by omega
      have hwj : IntKind.i64.wrap ((j : Int) + 1) = ((j + 1 : Nat) : Int) := by have := HN.out.1.2.2; rw [IntWalk.i64_in _ (by omega)]; omega
      have HJ := Lib.hid hjn
      have hjl : j < (ks.map i64v).length := by rw [List.length_map, HN.out.2.1]; exact hjn
      obtain ⟨kb, ko, rfl, -, -⟩ := HK.out.at_ (k := j) hjl
      obtain ⟨v, hv⟩ : ∃ v, ks.getD j 0 = v := ⟨_, rfl⟩
      have HV := Lib.hid (show ∀ W : World, Below w.heap.size w W → W.cell? ⟨kb, ko + j, none⟩ = some (.int .i64 v) from fun W hW => by
        obtain ⟨b', o', e', _, hc⟩ := (HK.out.below hW).at_ (k := j) hjl
        injection e' with e'; injection e' with e1 e2; subst e1; subst e2
        rw [hc, List.getElem_map, ← hv, List.getD_eq_getElem?_getD, List.getElem?_eq_getElem (by rw [HN.out.2.1]; exact hjn)]; rfl)
      have HVE := Lib.hid hv
      have HVM := Lib.hid (show v ∈ ks from by rw [← hv, List.getD_eq_getElem?_getD, List.getElem?_eq_getElem (by rw [HN.out.2.1]; exact hjn)]; exact List.getElem_mem _)
      clear hv hjl
      obtain ⟨⟨a0, a1, a2⟩, _⟩ := H4.out.bs.cells (.tail _ (.head _))
      have hv0 := HV.out _ H4.out.bs.below
      by_cases hvin : 0 ≤ v ∧ v < (r : Int)
      · obtain ⟨k, rfl⟩ : ∃ k : Nat, v = (k : Int) := ⟨v.toNat, by omega⟩
        have hkr : k < r := by omega
        have hk0 : ¬ (k : Int) < 0 := by omega
        have hk1 : ¬ (r : Int) ≤ (k : Int) := by omega
        have HKR := Lib.hid hkr
        have HCR := Lib.hid (show r * c ≤ cap from by have := HN.out.2.2; omega)
        have hlo : k * c + c ≤ r * c := idx_le hkr
        have hrc : r * c ≤ 100 * 100 := Nat.mul_le_mul HN.out.1.1 HN.out.1.2.1
        obtain ⟨p, hp⟩ : ∃ p, k * c = p := ⟨_, rfl⟩
        obtain ⟨s, hs⟩ : ∃ s, p + c = s := ⟨_, rfl⟩
        have HP := Lib.hid (And.intro hp hs)
        have hw1 : IntKind.i64.wrap ((k : Int) * (c : Int)) = (p : Int) := by rw [show (k : Int) * (c : Int) = (p : Int) by rw [← hp]; simp, IntWalk.i64_in _ (by omega)]
        have hw2 : IntKind.i64.wrap ((p : Int) + (c : Int)) = (s : Int) := by rw [IntWalk.i64_in _ (by omega)]; omega
        have hcut := fun W => cut_run W A nn cap p s (by omega) (by have := HCR.out; omega) c (cap - p) (by omega) rfl
        rw [hp] at hlo
        have HCR2 := Lib.hid (show Bytes w w.heap.size A (flat r c m) → True from fun _ => trivial)
        obtain ⟨lj, hlj⟩ : ∃ lj, (flat j c (pickM m ks)).length = lj := ⟨_, rfl⟩
        have HLJ := Lib.hid (show (flat j c (pickM m ks)).length = lj ∧ lj ≤ 10000 from ⟨hlj, by
          rw [← hlj, flat_len]
          have h4 : j * c ≤ 100 * 100 := Nat.mul_le_mul (by have := HN.out.1.2.2; omega) HN.out.1.2.1
          omega⟩)
        have HMJ := Lib.hid (show pickM m ks j = m k from by unfold pickM; rw [HVE.out]; rfl)
        clear hp hs hlj hlo hrc hvin HCR2 hkr
        go_wp2_with fail
        go_quiet (fail)
        obtain ⟨w5, hw5⟩ : ∃ x : World, w4.drewN nq = x := ⟨_, rfl⟩
        have H5 := Lib.hid (show AS w [(g0, 38, #[.int .i64 0, .int .i64 0, .slice none 0 0]), (ga, 38, mcells r c A nn cap)] gm (n : Int) (c : Int) A2 c2 (flat j c (pickM m ks)) w5 from by rw [← hw5]; exact H4.out.keep (nextN (Mem.start w4) nq))
        rw [hw5]
        clear hw5 hv0 a0 a1 a2
        go_wp2_with fail
        have H4D := Lib.hid (show AS w [(g0, 38, #[.int .i64 0, .int .i64 0, .slice none 0 0]), (ga, 38, mcells r c A nn cap)] gm (n : Int) (c : Int) A2 c2 (flat j c (pickM m ks)) w5.drew from H5.out.keep (nextN (Mem.start w5) 1))
        obtain ⟨hi0, hz0, hz1, hz2⟩ := HI0.out
        refine wp_region_noPanic ?_
        refine wp_heldG (fun w' => w'.cell? ⟨gm, 2, none⟩ = some (.slice A2 lj c2) ∧ (w'.cell? ⟨ga, 0, none⟩ = some (.int .i64 (r : Int)) ∧ w'.cell? ⟨ga, 1, none⟩ = some (.int .i64 (c : Int)) ∧ w'.cell? ⟨ga, 2, none⟩ = some (.slice A nn cap)) ∧ w'.cell? ⟨kb, ko + j, none⟩ = some (.int .i64 (k : Int))) [24] (by kernel_rfl) ?hs0 ?rg0
        case hs0 =>
          have k2 := H4D.out.cells.1.2.2
          rw [HLJ.out.1] at k2
          exact ⟨k2, (H4D.out.bs.cells (.tail _ (.head _))).1, HV.out _ H4D.out.bs.below⟩
        case rg0 =>
        intro hHeld
        refine wpAnyG_pure (i := 0) (oi := { dst := some 51, op := Op.fieldAddr 38 (Operand.tmp 6) 2, type := 0, pos := _, after := #[], guard := none }) (v := ?_) rfl (by kernel_rfl) (by kernel_rfl) (by kernel_rfl) (by kernel_rfl) (fun _ _ _ h => h) (Or.inl ⟨by rfl, ?_⟩) (fun _ => by assumption) ?_
        rotate_left
        · intro w hSw
          try dsimp only at hSw
          go_simp
          try with_reducible rfl
        try simp only [Act.put, List.setIfInBounds_toArray, List.set_cons_zero, List.set_cons_succ]
        refine wpAnyG_take (i := 1) (oi := { dst := some 52, op := Op.load 22 (Operand.tmp 51), type := 22, pos := _, after := #[{ on := 0, ground := Ground.data }], guard := none }) (v := ?_) rfl (by kernel_rfl) (by kernel_rfl) (by kernel_rfl) (by kernel_rfl) (fun _ _ _ h => h) (Or.inl ⟨by rfl, ?_⟩) (by assumption) ?_
        rotate_left
        · intro w hSw
          try dsimp only at hSw
          obtain ⟨k3, ⟨k0, k1, k2⟩, k4⟩ := hSw
          go_simp
          try with_reducible rfl
        try simp only [Act.put, List.setIfInBounds_toArray, List.set_cons_zero, List.set_cons_succ]
        refine wpAnyG_pure (i := 2) (oi := { dst := some 53, op := Op.fieldAddr 38 (Operand.tmp 2) 2, type := 0, pos := _, after := #[], guard := none }) (v := ?_) rfl (by kernel_rfl) (by kernel_rfl) (by kernel_rfl) (by kernel_rfl) (fun _ _ _ h => h) (Or.inl ⟨by rfl, ?_⟩) (fun _ => by assumption) ?_
        rotate_left
        · intro w hSw
          try dsimp only at hSw
          go_simp
          try with_reducible rfl
        try simp only [Act.put, List.setIfInBounds_toArray, List.set_cons_zero, List.set_cons_succ]
        refine wpAnyG_take (i := 3) (oi := { dst := some 54, op := Op.load 22 (Operand.tmp 53), type := 22, pos := _, after := #[{ on := 2, ground := Ground.data }], guard := none }) (v := ?_) rfl (by kernel_rfl) (by kernel_rfl) (by kernel_rfl) (by kernel_rfl) (fun _ _ _ h => h) (Or.inl ⟨by rfl, ?_⟩) (by assumption) ?_
        rotate_left
        · intro w hSw
          try dsimp only at hSw
          obtain ⟨k3, ⟨k0, k1, k2⟩, k4⟩ := hSw
          go_simp
          try with_reducible rfl
        try simp only [Act.put, List.setIfInBounds_toArray, List.set_cons_zero, List.set_cons_succ]
        refine wpAnyG_pure (i := 4) (oi := { dst := some 55, op := Op.move (Operand.tmp 1), type := 48, pos := _, after := #[], guard := none }) (v := ?_) rfl (by kernel_rfl) (by kernel_rfl) (by kernel_rfl) (by kernel_rfl) (fun _ _ _ h => h) (Or.inl ⟨by rfl, ?_⟩) (fun _ => by assumption) ?_
        rotate_left
        · intro w hSw
          try dsimp only at hSw
          go_simp
          try with_reducible rfl
        try simp only [Act.put, List.setIfInBounds_toArray, List.set_cons_zero, List.set_cons_succ]
        refine wpAnyG_pure (i := 5) (oi := { dst := some 56, op := Op.move (Operand.tmp 7), type := 3, pos := _, after := #[], guard := none }) (v := ?_) rfl (by kernel_rfl) (by kernel_rfl) (by kernel_rfl) (by kernel_rfl) (fun _ _ _ h => h) (Or.inl ⟨by rfl, ?_⟩) (fun _ => by assumption) ?_
        rotate_left
        · intro w hSw
          try dsimp only at hSw
          go_simp
          try with_reducible rfl
        try simp only [Act.put, List.setIfInBounds_toArray, List.set_cons_zero, List.set_cons_succ]
        refine wpAnyG_pure (i := 6) (oi := { dst := some 57, op := Op.indexAddr 48 (Operand.tmp 55) (Operand.tmp 56), type := 0, pos := _, after := #[{ on := 4, ground := Ground.data }, { on := 5, ground := Ground.data }], guard := none }) (v := ?_) rfl (by kernel_rfl) (by kernel_rfl) (by kernel_rfl) (by kernel_rfl) (fun _ _ _ h => h) (Or.inl ⟨by rfl, ?_⟩) (fun _ => by assumption) ?_
        rotate_left
        · intro w hSw
          try dsimp only at hSw
          go_simp
          try with_reducible rfl
        try simp only [Act.put, List.setIfInBounds_toArray, List.set_cons_zero, List.set_cons_succ]
        refine wpAnyG_take (i := 7) (oi := { dst := some 58, op := Op.load 3 (Operand.tmp 57), type := 3, pos := _, after := #[{ on := 6, ground := Ground.data }], guard := none }) (v := ?_) rfl (by kernel_rfl) (by kernel_rfl) (by kernel_rfl) (by kernel_rfl) (fun _ _ _ h => h) (Or.inl ⟨by rfl, ?_⟩) (by assumption) ?_
        rotate_left
        · intro w hSw
          try dsimp only at hSw
          obtain ⟨k3, ⟨k0, k1, k2⟩, k4⟩ := hSw
          go_simp
          try with_reducible rfl
        try simp only [Act.put, List.setIfInBounds_toArray, List.set_cons_zero, List.set_cons_succ]
        refine wpAnyG_pure (i := 8) (oi := { dst := some 59, op := Op.fieldAddr 38 (Operand.tmp 2) 1, type := 0, pos := _, after := #[], guard := none }) (v := ?_) rfl (by kernel_rfl) (by kernel_rfl) (by kernel_rfl) (by kernel_rfl) (fun _ _ _ h => h) (Or.inl ⟨by rfl, ?_⟩) (fun _ => by assumption) ?_
        rotate_left
        · intro w hSw
          try dsimp only at hSw
          go_simp
          try with_reducible rfl
        try simp only [Act.put, List.setIfInBounds_toArray, List.set_cons_zero, List.set_cons_succ]
        refine wpAnyG_take (i := 9) (oi := { dst := some 60, op := Op.load 3 (Operand.tmp 59), type := 3, pos := _, after := #[{ on := 8, ground := Ground.data }], guard := none }) (v := ?_) rfl (by kernel_rfl) (by kernel_rfl) (by kernel_rfl) (by kernel_rfl) (fun _ _ _ h => h) (Or.inl ⟨by rfl, ?_⟩) (by assumption) ?_
        rotate_left
        · intro w hSw
          try dsimp only at hSw
          obtain ⟨k3, ⟨k0, k1, k2⟩, k4⟩ := hSw
          go_simp
          try with_reducible rfl
        try simp only [Act.put, List.setIfInBounds_toArray, List.set_cons_zero, List.set_cons_succ]
        refine wpAnyG_pure (i := 10) (oi := { dst := some 61, op := Op.binOp BinOp.mul 3 (Operand.tmp 58) (Operand.tmp 60) 3, type := 3, pos := _, after := #[{ on := 7, ground := Ground.data }, { on := 9, ground := Ground.data }], guard := none }) (v := ?_) rfl (by kernel_rfl) (by kernel_rfl) (by kernel_rfl) (by kernel_rfl) (fun _ _ _ h => h) (Or.inl ⟨by rfl, ?_⟩) (fun _ => by assumption) ?_
        rotate_left
        · intro w hSw
          try dsimp only at hSw
          go_simp
          try with_reducible rfl
        try simp only [Act.put, List.setIfInBounds_toArray, List.set_cons_zero, List.set_cons_succ]
        refine wpAnyG_pure (i := 11) (oi := { dst := some 62, op := Op.move (Operand.tmp 1), type := 48, pos := _, after := #[], guard := none }) (v := ?_) rfl (by kernel_rfl) (by kernel_rfl) (by kernel_rfl) (by kernel_rfl) (fun _ _ _ h => h) (Or.inl ⟨by rfl, ?_⟩) (fun _ => by assumption) ?_
        rotate_left
        · intro w hSw
          try dsimp only at hSw
          go_simp
          try with_reducible rfl
        try simp only [Act.put, List.setIfInBounds_toArray, List.set_cons_zero, List.set_cons_succ]
        refine wpAnyG_pure (i := 12) (oi := { dst := some 63, op := Op.move (Operand.tmp 7), type := 3, pos := _, after := #[], guard := none }) (v := ?_) rfl (by kernel_rfl) (by kernel_rfl) (by kernel_rfl) (by kernel_rfl) (fun _ _ _ h => h) (Or.inl ⟨by rfl, ?_⟩) (fun _ => by assumption) ?_
        rotate_left
        · intro w hSw
          try dsimp only at hSw
          go_simp
          try with_reducible rfl
        try simp only [Act.put, List.setIfInBounds_toArray, List.set_cons_zero, List.set_cons_succ]
        refine wpAnyG_pure (i := 13) (oi := { dst := some 64, op := Op.indexAddr 48 (Operand.tmp 62) (Operand.tmp 63), type := 0, pos := _, after := #[{ on := 11, ground := Ground.data }, { on := 12, ground := Ground.data }], guard := none }) (v := ?_) rfl (by kernel_rfl) (by kernel_rfl) (by kernel_rfl) (by kernel_rfl) (fun _ _ _ h => h) (Or.inl ⟨by rfl, ?_⟩) (fun _ => by assumption) ?_
        rotate_left
        · intro w hSw
          try dsimp only at hSw
          go_simp
          try with_reducible rfl
        try simp only [Act.put, List.setIfInBounds_toArray, List.set_cons_zero, List.set_cons_succ]
        refine wpAnyG_take (i := 14) (oi := { dst := some 65, op := Op.load 3 (Operand.tmp 64), type := 3, pos := _, after := #[{ on := 13, ground := Ground.data }], guard := none }) (v := ?_) rfl (by kernel_rfl) (by kernel_rfl) (by kernel_rfl) (by kernel_rfl) (fun _ _ _ h => h) (Or.inl ⟨by rfl, ?_⟩) (by assumption) ?_
        rotate_left
        · intro w hSw
          try dsimp only at hSw
          obtain ⟨k3, ⟨k0, k1, k2⟩, k4⟩ := hSw
          go_simp
          try with_reducible rfl
        try simp only [Act.put, List.setIfInBounds_toArray, List.set_cons_zero, List.set_cons_succ]
        refine wpAnyG_pure (i := 15) (oi := { dst := some 66, op := Op.fieldAddr 38 (Operand.tmp 2) 1, type := 0, pos := _, after := #[], guard := none }) (v := ?_) rfl (by kernel_rfl) (by kernel_rfl) (by kernel_rfl) (by kernel_rfl) (fun _ _ _ h => h) (Or.inl ⟨by rfl, ?_⟩) (fun _ => by assumption) ?_
        rotate_left
        · intro w hSw
          try dsimp only at hSw
          go_simp
          try with_reducible rfl
        try simp only [Act.put, List.setIfInBounds_toArray, List.set_cons_zero, List.set_cons_succ]
        refine wpAnyG_take (i := 16) (oi := { dst := some 67, op := Op.load 3 (Operand.tmp 66), type := 3, pos := _, after := #[{ on := 15, ground := Ground.data }], guard := none }) (v := ?_) rfl (by kernel_rfl) (by kernel_rfl) (by kernel_rfl) (by kernel_rfl) (fun _ _ _ h => h) (Or.inl ⟨by rfl, ?_⟩) (by assumption) ?_
        rotate_left
        · intro w hSw
          try dsimp only at hSw
          obtain ⟨k3, ⟨k0, k1, k2⟩, k4⟩ := hSw
          go_simp
          try with_reducible rfl
        try simp only [Act.put, List.setIfInBounds_toArray, List.set_cons_zero, List.set_cons_succ]
        refine wpAnyG_pure (i := 17) (oi := { dst := some 68, op := Op.binOp BinOp.mul 3 (Operand.tmp 65) (Operand.tmp 67) 3, type := 3, pos := _, after := #[{ on := 14, ground := Ground.data }, { on := 16, ground := Ground.data }], guard := none }) (v := ?_) rfl (by kernel_rfl) (by kernel_rfl) (by kernel_rfl) (by kernel_rfl) (fun _ _ _ h => h) (Or.inl ⟨by rfl, ?_⟩) (fun _ => by assumption) ?_
        rotate_left
        · intro w hSw
          try dsimp only at hSw
          go_simp
          try with_reducible rfl
        try simp only [Act.put, List.setIfInBounds_toArray, List.set_cons_zero, List.set_cons_succ]
        refine wpAnyG_pure (i := 18) (oi := { dst := some 69, op := Op.fieldAddr 38 (Operand.tmp 2) 1, type := 0, pos := _, after := #[], guard := none }) (v := ?_) rfl (by kernel_rfl) (by kernel_rfl) (by kernel_rfl) (by kernel_rfl) (fun _ _ _ h => h) (Or.inl ⟨by rfl, ?_⟩) (fun _ => by assumption) ?_
        rotate_left
        · intro w hSw
          try dsimp only at hSw
          go_simp
          try with_reducible rfl
        try simp only [Act.put, List.setIfInBounds_toArray, List.set_cons_zero, List.set_cons_succ]
        refine wpAnyG_take (i := 19) (oi := { dst := some 70, op := Op.load 3 (Operand.tmp 69), type := 3, pos := _, after := #[{ on := 18, ground := Ground.data }], guard := none }) (v := ?_) rfl (by kernel_rfl) (by kernel_rfl) (by kernel_rfl) (by kernel_rfl) (fun _ _ _ h => h) (Or.inl ⟨by rfl, ?_⟩) (by assumption) ?_
        rotate_left
        · intro w hSw
          try dsimp only at hSw
          obtain ⟨k3, ⟨k0, k1, k2⟩, k4⟩ := hSw
          go_simp
          try with_reducible rfl
        try simp only [Act.put, List.setIfInBounds_toArray, List.set_cons_zero, List.set_cons_succ]
        refine wpAnyG_pure (i := 20) (oi := { dst := some 71, op := Op.binOp BinOp.add 3 (Operand.tmp 68) (Operand.tmp 70) 3, type := 3, pos := _, after := #[{ on := 17, ground := Ground.data }, { on := 19, ground := Ground.data }], guard := none }) (v := ?_) rfl (by kernel_rfl) (by kernel_rfl) (by kernel_rfl) (by kernel_rfl) (fun _ _ _ h => h) (Or.inl ⟨by rfl, ?_⟩) (fun _ => by assumption) ?_
        rotate_left
        · intro w hSw
          try dsimp only at hSw
          go_simp
          try with_reducible rfl
        try simp only [Act.put, List.setIfInBounds_toArray, List.set_cons_zero, List.set_cons_succ]
        refine wpAnyG_pure (i := 21) (oi := { dst := some 72, op := Op.slice 22 (Operand.tmp 54) (some (Operand.tmp 61)) (some (Operand.tmp 71)) none, type := 22, pos := _, after := #[{ on := 3, ground := Ground.data }, { on := 10, ground := Ground.data }, { on := 20, ground := Ground.data }], guard := none }) (v := ?_) rfl (by kernel_rfl) (by kernel_rfl) (by kernel_rfl) (by kernel_rfl) (fun _ _ _ h => h) (Or.inl ⟨by rfl, ?_⟩) (fun _ => by assumption) ?_
        rotate_left
        · intro w hSw
          try dsimp only at hSw
          go_simp
          try with_reducible rfl
        try simp only [Act.put, List.setIfInBounds_toArray, List.set_cons_zero, List.set_cons_succ]
        refine wpAnyG_one (i := 22) (o := { dst := some 73, op := Op.call { callee := Callee.builtin Builtin.append, args := #[Operand.tmp 52, Operand.tmp 72], argTypes := #[22, 22] }, type := 22, pos := _, after := #[{ on := 1, ground := Ground.data }, { on := 21, ground := Ground.data }], guard := none }) (by kernel_rfl) rfl (fun K hK => ?_)
        refine step_app _ rfl _ _ _ rfl w.heap.size 5 i0 _ 1 Try.underlying22 hi0 hz0 hz1 hz2 rfl A2 c2 lj ((flat j c (pickM m ks)).map u8v) rfl (by rw [List.length_map, HLJ.out.1]) (H4D.out.row) w.heap.size (cutA A cap p) (cap - p) c ((row c (m k)).map u8v) rfl (by rw [List.length_map, row_len]) (by have h := cut_row (HA.out.below H4D.out.bs.below) HKR.out HCR.out; rw [HP.out.1] at h; exact h) u8v_one (by rw [List.length_map, List.length_map, HLJ.out.1, row_len]; have := HLJ.out.2; have := HN.out.1; simp [maxLen]; omega) (by rw [List.length_map, List.length_map, HLJ.out.1, row_len]; have := HLJ.out.2; have := HN.out.1; omega) H4D.out.bs.below.size (lj + c) rfl ?_
        intro A5 c5 w7 ho7 hb7 hg7 _
        have H7 := Lib.hid (H4D.out.app (l' := flat (j + 1) c (pickM m ks)) (by rw [flat_succ, HMJ.out, List.map_append]; exact ho7) hb7 hg7)
        clear ho7 hb7 hg7
        rw [HLJ.out.1] at H7
        try dsimp only
        refine hK.out _ _ ?_ (fun hHeld => ?_)
        · intro _
          try dsimp only
          exact ⟨H7.out.cells.1, (H7.out.bs.cells (.tail _ (.head _))).1, HV.out _ H7.out.bs.below⟩
        clear hK K
        try simp only [Act.put, List.setIfInBounds_toArray, List.set_cons_zero, List.set_cons_succ]
        have hHeld := hHeld (by kernel_rfl)
        refine wpAnyG_pure (i := 23) (oi := { dst := some 74, op := Op.fieldAddr 38 (Operand.tmp 6) 2, type := 0, pos := _, after := #[{ on := 0, ground := Ground.phase }, { on := 1, ground := Ground.phase }, { on := 2, ground := Ground.phase }, { on := 3, ground := Ground.phase }, { on := 4, ground := Ground.phase }, { on := 5, ground := Ground.phase }, { on := 6, ground := Ground.phase }, { on := 7, ground := Ground.phase }, { on := 8, ground := Ground.phase }, { on := 9, ground := Ground.phase }, { on := 10, ground := Ground.phase }, { on := 11, ground := Ground.phase }, { on := 12, ground := Ground.phase }, { on := 13, ground := Ground.phase }, { on := 14, ground := Ground.phase }, { on := 15, ground := Ground.phase }, { on := 16, ground := Ground.phase }, { on := 17, ground := Ground.phase }, { on := 18, ground := Ground.phase }, { on := 19, ground := Ground.phase }, { on := 20, ground := Ground.phase }, { on := 21, ground := Ground.phase }, { on := 22, ground := Ground.phase }], guard := none }) (v := ?_) rfl (by kernel_rfl) (by kernel_rfl) (by kernel_rfl) (by kernel_rfl) (fun _ _ _ h => h) (Or.inl ⟨by rfl, ?_⟩) (fun _ => by assumption) ?_
        rotate_left
        · intro w hSw
          try dsimp only at hSw
          go_simp
          try with_reducible rfl
        try simp only [Act.put, List.setIfInBounds_toArray, List.set_cons_zero, List.set_cons_succ]
        refine wpAnyG_one (i := 24) (o := { dst := none, op := Op.store 22 (Operand.tmp 74) (Operand.tmp 73), type := 0, pos := _, after := #[{ on := 23, ground := Ground.data }, { on := 22, ground := Ground.data }, { on := 22, ground := Ground.chain }, { on := 0, ground := Ground.phase }, { on := 1, ground := Ground.phase }, { on := 2, ground := Ground.phase }, { on := 3, ground := Ground.phase }, { on := 4, ground := Ground.phase }, { on := 5, ground := Ground.phase }, { on := 6, ground := Ground.phase }, { on := 7, ground := Ground.phase }, { on := 8, ground := Ground.phase }, { on := 9, ground := Ground.phase }, { on := 10, ground := Ground.phase }, { on := 11, ground := Ground.phase }, { on := 12, ground := Ground.phase }, { on := 13, ground := Ground.phase }, { on := 14, ground := Ground.phase }, { on := 15, ground := Ground.phase }, { on := 16, ground := Ground.phase }, { on := 17, ground := Ground.phase }, { on := 18, ground := Ground.phase }, { on := 19, ground := Ground.phase }, { on := 20, ground := Ground.phase }, { on := 21, ground := Ground.phase }, { on := 22, ground := Ground.phase }], guard := none }) (by kernel_rfl) rfl (fun K hK => ?_)
        obtain ⟨s3, s4⟩ := H7.out.cells
        go_simp
        try dsimp only
        refine hK.out _ _ ?_ (fun hHeld => ?_)
        · exact fun h => (st_no (by kernel_rfl) h).elim
        clear hK K
        try simp only [Act.put, List.setIfInBounds_toArray, List.set_cons_zero, List.set_cons_succ]
        clear hHeld
        refine wpAnyG_done (by kernel_rfl) ?_ _
        refine NoPanic.normal ?_
        have h8 := H7.out.set
        rw [show (flat (j + 1) c (pickM m ks)).length = lj + c from by rw [flat_succ, List.length_append, HLJ.out.1, row_len]] at h8
        have H8 := Lib.hid h8
        clear h8 hHeld
        go_wp2_with fail
        go_roundw
        case rel =>
          refine ⟨j + 1, A5, c5, by simp, HJ.out, fun i hi => ?_, H8.out⟩
          by_cases e : i = j
          · subst e
            rw [HVE.out]; have := HKR.out; omega
          · exact HIN.out i (by omega)
        case measure => simp [intOf]; omega
      · have HBAD := Lib.hid (show allIn r ks = false from by
          unfold allIn
          rw [List.all_eq_false]
          exact ⟨v, HVM.out, by simp only [decide_eq_true_eq]; exact hvin⟩)
        by_cases hv1 : v < 0
        · clear hvin
          go_wp2_with fail
          go_quiet (fail)
          obtain ⟨⟨d0, d1, d2⟩, f0, f1, f2⟩ := (H4.out.keep (nextN (Mem.start w4) nq)).bs.cells (.head _)
          have hfin := (H4.out.keep (nextN (Mem.start w4) nq)).bs.end_ (.head _) (.int .i64 0) (.int .i64 0) (.slice none 0 0)
          go_wp2_with fail
          obtain ⟨h1, h2, e0, e1, e2⟩ := hfin
          refine bodyPost_ret (v := .tuple #[.agg #[.int .i64 0, .int .i64 0, .slice none 0 0], .int .i64 2]) (by simp [results, Try.results29, go_sem, e0, e1, e2]) rfl ?_
          exact ⟨fun h => (by rw [HBAD.out] at h; cases h), fun _ => ⟨rfl, h1⟩⟩
        · have hv2 : (r : Int) ≤ v := by omega
          clear hvin
          go_wp2_with fail
          go_quiet (fail)
          obtain ⟨⟨d0, d1, d2⟩, f0, f1, f2⟩ := (H4.out.keep (nextN (Mem.start w4) nq)).bs.cells (.head _)
          have hfin := (H4.out.keep (nextN (Mem.start w4) nq)).bs.end_ (.head _) (.int .i64 0) (.int .i64 0) (.slice none 0 0)
          go_wp2_with fail
          obtain ⟨h1, h2, e0, e1, e2⟩ := hfin
          refine bodyPost_ret (v := .tuple #[.agg #[.int .i64 0, .int .i64 0, .slice none 0 0], .int .i64 2]) (by simp [results, Try.results29, go_sem, e0, e1, e2]) rfl ?_
          exact ⟨fun h => (by rw [HBAD.out] at h; cases h), fun _ => ⟨rfl, h1⟩⟩
    · obtain rfl : n = j := by omega
      have HOK := Lib.hid (show allIn r ks = true from by
        unfold allIn
        rw [List.all_eq_true]
        intro v hv
        obtain ⟨i, hi, e⟩ := List.mem_iff_getElem.1 hv
        have h := HIN.out i (by rw [← HN.out.2.1]; exact hi)
        rw [List.getD_eq_getElem?_getD, List.getElem?_eq_getElem hi, Option.getD_some, e] at h
        exact decide_eq_true h)
      obtain ⟨⟨c0, c1, c2'⟩, _⟩ := H4.out.cells
      obtain ⟨⟨d0, d1, d2⟩, f0, f1, f2⟩ := H4.out.bs.cells (.head _)
      obtain ⟨lq, hlq⟩ : ∃ lq, (flat n c (pickM m ks)).length = lq := ⟨_, rfl⟩
      rw [hlq] at c2'
      have hfin := H4.out.end_ (.head _) (.int .i64 (n : Int)) (.int .i64 (c : Int)) (.slice A2 lq c2)
      have HLQ := Lib.hid (hlq.symm.trans (flat_len _ _ _))
      have HL := Lib.hid (H4.out.row)
      go_wp2_with fail
      obtain ⟨h1, h2, e0, e1, e2⟩ := hfin
      refine bodyPost_ret (v := .tuple #[.agg #[.int .i64 (n : Int), .int .i64 (c : Int), .slice A2 lq c2], .int .i64 0]) (by simp [results, Try.results29, go_sem, e0, e1, e2]) rfl ?_
      have e9 := HLQ.out
      subst e9
      refine ⟨fun _ => ⟨A2, c2, rfl, ?_, h2, h1⟩, fun h => ?_⟩
      · have h3 := HL.out.le
        rw [List.length_map, flat_len] at h3
        exact h3
      · rw [HOK.out] at h; cases h
end Go.Proofs.Ythdapoipfnnaeaa.MxW
/- Bytes copied into a row that is there. -/
namespace Go.Proofs.Ythdapoipfnnaeaa.MxW
open Go.RowKit Go.Shelf Mem Gf FdW Mx Rng
set_option linter.unusedVariables false
set_option linter.unusedSectionVars false

theorem u1info : (Try.prog.info? 5).map (·.size) = some 1 := by kernel_rfl
theorem blkRow {w : World} {g : Nat} {T : TypeId} {old : Array Value} (h : Blk w g T old) (cs : Array Value) : Blk (w.setRow g cs) g T cs := setRow_heap w g old cs T (0, 0) h
theorem frRow {S : Nat → Prop} {w w' : World} {g : Nat} (h : Fr S w w') (hg : g < w.heap.size → S g) (cs : Array Value) : Fr S w (w'.setRow g cs) :=
  ⟨h.os, h.tape, h.output, by unfold World.setRow; simpa using h.size, fun k hk hn => by
    have hne : g ≠ k := fun e => hn (by rw [← e]; exact hg (by omega))
    have : (w'.setRow g cs).heap[k]? = w'.heap[k]? := by unfold World.setRow; simp [Array.getElem?_modify, hne]
    exact this.trans (h.block k hk hn)⟩
theorem step_copyin {ops : Array Oper} {o : Oper} {a : Act} {R : Act → World → Prop} {Q : Exit → Act → World → Prop} {E : Prop} (w : World) (hgd : o.guard = none) (d s : Operand) (ho : o.op = .call { callee := .builtin .copy, args := #[d, s], argTypes := #[22, 22] })
    (g off n n' : Nat) (A : Option Addr) (m c : Nat) (l : List UInt8) (T : TypeId) (cur : Array Value) (hd : a.eval d = .slice (some ⟨g, off, none⟩) n n') (hs : a.eval s = .slice A m c) (hl : l.length = Nat.min m n)
    (hB : Blk w g T cur) (hfit : off + l.length ≤ cur.size) (hA : Bytes w w.heap.size A l)
    (h : ∀ w' k, Blk w' g T (cur.toList.take off ++ l.map u8v ++ cur.toList.drop (off + l.length)).toArray → Fr (fun k => k = g) w w' → w'.heap.size = w.heap.size → R (a.put o.dst (.int .i64 k)) w') : if Region.wanted o (yielded ops a.tmps) = true then Oper.wp Try.prog o a w R Q else E := by
  rw [if_pos (by simp [Region.wanted, hgd])]
  unfold Oper.wp execOp
  by_cases hz : l.length = 0
  · have hrun := run_copy_none (P := Try.prog) w 22 22 o.type 5 (some ⟨g, off, none⟩) A n n' m c Try.underlying22 u1info (by rw [← hl]; exact hz)
    simp only [ho, resolve, invoke, builtin, Sem.run_bind, Sem.run_pure, Result.andThen_ok, List.map_toArray, List.map_cons, List.map_nil, hd, hs, hrun]
    refine h w 0 ?_ (Fr.refl _ w) rfl
    obtain rfl : l = [] := List.eq_nil_of_length_eq_zero hz
    simp only [List.map_nil, List.append_nil, List.length_nil, Nat.add_zero, List.take_append_drop, Array.toArray_toList]
    exact hB
  · obtain ⟨b, o2, rfl, _, hc⟩ := hA (by rw [List.length_map]; omega)
    have hrun := run_copy_row (P := Try.prog) w 22 22 o.type 5 g off n n' ⟨b, o2, none⟩ m c cur T (l.map u8v) Try.underlying22 u1info hB (by rw [List.length_map]; exact hl) (fun j v hv => by rw [Addr.add_lit]; exact hc j v hv) (by rw [List.length_map]; exact hfit) (u8v_one (l := l))
    simp only [ho, resolve, invoke, builtin, Sem.run_bind, Sem.run_pure, Result.andThen_ok, List.map_toArray, List.map_cons, List.map_nil, hd, hs, hrun]
    rw [List.length_map]
    exact h _ _ (blkRow hB _) (frRow (Fr.refl (fun k => k = g) w) (fun _ => rfl) _) (by unfold World.setRow; simp)
theorem own_blk {w : World} {base g c : Nat} {T : TypeId} {xs : List Value} (h : Mem.Own w base T (some ⟨g, 0, none⟩) c xs) (hl : xs.length = c) : Blk w g T xs.toArray ∧ base ≤ g ∧ c ≤ maxLen := by
  rcases h.2 with ⟨hv, _⟩ | ⟨g', cap, cur, hv, hb, hg, hn, hm, hcs, ht⟩
  · injection hv with h1; cases h1
  · injection hv with h1 _ h3
    injection h1 with h1
    have := congrArg Addr.block h1
    dsimp only at this
    subst this; subst h3
    refine ⟨?_, hb, hm⟩
    have e : cur.toList = xs := by
      rw [← ht, List.take_of_length_le]
      rw [Array.length_toList, hcs, hl]; exact Nat.le_refl _
    have : cur = xs.toArray := by rw [← e]
    rw [← this]; exact hg
theorem blk_own {w : World} {base g : Nat} {T : TypeId} {xs : List Value} (h : Blk w g T xs.toArray) (hb : base ≤ g) (hm : xs.length ≤ maxLen) : Mem.Own w base T (some ⟨g, 0, none⟩) xs.length xs :=
  ⟨by simp, .inr ⟨g, xs.length, xs.toArray, by simp, hb, h, by simp, hm, by simp, by simp [List.take_of_length_le]⟩⟩
/-- A row copied over row j. -/
theorem flat_copy {n c j : Nat} {M' : M} {f : Nat → UInt8} (hj : j < n) : (flat n c M').take (j * c) ++ row c f ++ (flat n c M').drop (j * c + c) = flat n c (fun x y => if x = j then f y else M' x y) := by
  have hle := idx_le (c := c) hj
  refine flat_ext (by rw [List.length_append, List.length_append, List.length_take, List.length_drop, row_len, flat_len]; omega) fun i hi k hk => ?_
  by_cases h1 : i < j
  · have := idx_le (c := c) h1
    rw [List.getElem?_append_left (by rw [List.length_append, List.length_take, row_len, flat_len]; omega), List.getElem?_append_left (by rw [List.length_take, flat_len]; omega), List.getElem?_take, if_pos (by omega), flat_get hi hk, if_neg (by omega)]
  · by_cases h2 : i = j
    · subst h2
      rw [List.getElem?_append_left (by rw [List.length_append, List.length_take, row_len, flat_len]; omega), List.getElem?_append_right (by rw [List.length_take, flat_len]; omega), List.length_take, flat_len, Nat.min_eq_left (by omega), Nat.add_sub_cancel_left, row_get hk, if_pos rfl]
    · have := idx_le (c := c) (show j < i by omega)
      rw [List.getElem?_append_right (by rw [List.length_append, List.length_take, row_len, flat_len]; omega), List.length_append, List.length_take, row_len, flat_len, Nat.min_eq_left (by omega), List.getElem?_drop, show j * c + c + (i * c + k - (j * c + c)) = i * c + k by omega, flat_get hi hk, if_neg h2]
end Go.Proofs.Ythdapoipfnnaeaa.MxW
/- The program's Pick. -/
namespace Go.Proofs.Ythdapoipfnnaeaa.MxW
open Go.RowKit Go.Shelf Mem Gf FdW Mx Rng
open PlW (In)
set_option linter.unusedVariables false
set_option linter.unusedSectionVars false
attribute [local go_sem] Oper.semAt_some wide_fn

def pickUp (m : M) (ks : List Int) (j : Nat) : M := fun x y => if x < j then pickM m ks x y else 0
theorem pickUp_next {n c j k : Nat} {m : M} {ks : List Int} (h : pickM m ks j = m k) (hj : j < n) : (flat n c (pickUp m ks j)).take (j * c) ++ row c (m k) ++ (flat n c (pickUp m ks j)).drop (j * c + c) = flat n c (pickUp m ks (j + 1)) := by
  rw [flat_copy hj]
  refine flat_congr fun x hx y hy => ?_
  unfold pickUp
  by_cases e : x = j
  · subst e; rw [if_pos rfl, if_pos (by omega), h]
  · rw [if_neg e]
    by_cases e2 : x < j
    · rw [if_pos e2, if_pos (by omega)]
    · rw [if_neg e2, if_neg (by omega)]
theorem rowA_at {g c j : Nat} : rowA (some ⟨g, 0, none⟩) c j = some ⟨g, j * c, none⟩ := by
  by_cases h : c = 0
  · subst h; rw [rowA_zero, Nat.mul_zero]
  · rw [rowA_some (by omega), Nat.zero_add]
theorem rowB {w : World} {B r c k : Nat} {A : Option Addr} {m : M} (h : Bytes w B A (flat r c m)) (hk : k < r) : Bytes w B (rowA A c k) (row c (m k)) := by
  by_cases h0 : c = 0
  · subst h0; exact Bytes.nil
  · obtain ⟨b, o, rfl, _⟩ := h.at_ (k := k * c) (by rw [flat_len]; have := idx_le (c := c) hk; omega)
    rw [rowA_some (by omega), ← flat_row hk]
    exact (h.drop (k * c)).take c
theorem WS.copied {w0 w w' : World} {Y : List (Nat × TypeId × Array Value)} {g r c : Nat} {m m' : M} (h : WS w0 Y g (r * c) r c m w) (hf : Fr (fun k => k = g) w w') (hb : Blk w' g 5 ((flat r c m').map u8v).toArray) : WS w0 Y g (r * c) r c m' w' := by
  have hob := own_blk h.row (by rw [List.length_map, flat_len])
  refine ⟨h.below.trans (hf.below h.below.size fun k hk => by rw [hk]; exact hob.2.1), fun y hy => ⟨(h.box y hy).1.fr hf fun e => ?_, (h.box y hy).2⟩, ?_⟩
  · exact (h.box y hy).1.ne_own h.row (h.box y hy).2.1 g rfl e.symm
  · have := blk_own hb hob.2.1 (by rw [List.length_map, flat_len]; exact hob.2.2)
    rw [List.length_map, flat_len] at this
    exact this
set_option maxRecDepth 100000 in
set_option maxHeartbeats 4000000 in
theorem pick_any (w : World) (r c : Nat) (A : Option Addr) (nn cap : Nat) (m : M) (K : Option Addr) (ks : List Int) (n ck : Nat) (hn : ks.length = n) (hnn : nn = r * c) (hd : r ≤ 100 ∧ c ≤ 100 ∧ n ≤ 100) (hcap : nn ≤ cap) (hA : Bytes w w.heap.size A (flat r c m)) (hK : Cells w w.heap.size K (ks.map i64v)) :
    Calls Try.prog 28 #[.agg #[.int .i64 (r : Int), .int .i64 (c : Int), .slice A nn cap], .slice K n ck] w (PickOk w n c (pickM m ks) (allIn r ks)) := by
  have HN := Lib.hid (And.intro hd (And.intro hn (And.intro hnn hcap)))
  have HA := Lib.hid hA
  have HK := Lib.hid hK
  have h1 : ¬ (65536 : Int) < (n : Int) := by omega
  have HR := Lib.hid (show rightB (r : Int) (c : Int) nn = true from right_dim ⟨hd.1, hd.2.1⟩ hnn)
  have H0 := Lib.hid (((BS.start w).put (mcells r c A nn cap) 27 (by decide)).put #[.int .i64 0, .int .i64 0, .slice none 0 0] 27 (by decide))
  clear hA hK hn hnn hcap
  go_enter Try.func28, Try.ntmps28
  obtain ⟨⟨a0, a1, a2⟩, _⟩ := H0.out.cells (.tail _ (.head _))
  go_wp2_with fail
  clear a0 a1 a2
  obtain ⟨w1, hw1⟩ : ∃ x : World, (w.alloc (.cells #[.int .i64 (r : Int), .int .i64 (c : Int), .slice A nn cap] 27)).alloc (.cells #[.int .i64 0, .int .i64 0, .slice none 0 0] 27) = x := ⟨_, rfl⟩
  have hw1' : (w.alloc (.cells (mcells r c A nn cap) 27)).alloc (.cells #[.int .i64 0, .int .i64 0, .slice none 0 0] 27) = w1 := hw1
  rw [hw1', World.size_alloc] at H0
  rw [hw1]
  clear hw1 hw1'
  obtain ⟨ga, hga⟩ : ∃ x, w.heap.size = x := ⟨_, rfl⟩
  obtain ⟨g0, hg0⟩ : ∃ x, ga + 1 = x := ⟨_, rfl⟩
  rw [hga, hg0] at H0 ⊢
  refine (right_any w1 _ _ A nn cap).mono ?_
  rintro e w2 ⟨rfl, hb⟩
  rw [HR.out]
  have H1 := Lib.hid (H0.out.keep hb)
  clear hb H0
  by_cases hc0 : (0 : Int) < (c : Int)
  · have hcz : ((c : Int) == 0) = false := by simp; omega
    obtain ⟨qd, hqd⟩ : ∃ q, IntKind.i64.wrap ((16777216 : Int).tdiv (c : Int)) = q := ⟨_, rfl⟩
    have hdv : decide (qd < (n : Int)) = false := by
      refine decide_eq_false ?_
      have k1 : (16777216 : Int) / (c : Int) ≥ 100 := Int.le_ediv_of_mul_le hc0 (by omega)
      have k2 : (16777216 : Int) / (c : Int) ≤ 16777216 := Int.ediv_le_self _ (by decide)
      rw [Int.tdiv_eq_ediv_of_nonneg (by decide), IntWalk.i64_in _ (by omega)] at hqd
      omega
    have hcn : ¬ c = 0 := by omega
    clear hd
    obtain ⟨⟨a0, a1, a2⟩, _⟩ := H1.out.cells (.tail _ (.head _))
    go_wp2_with fail
    clear a0 a1 a2
    refine (none_any w2 n c (by have h1 : n * c ≤ 100 * 100 := Nat.mul_le_mul HN.out.1.2.2 HN.out.1.2.1; omega)).mono ?_
    rintro e w3 ⟨g, rfl, ho, hb⟩
    have H2 := Lib.hid (H1.out.none_ (g := g) (cap := n * c) (r := n) (c := c) (m := fun _ _ => 0) (show Wm w3 w.heap.size g (n * c) n c _ from ho.down H1.out.below.size) hb)
    clear ho hb
    have H3 := Lib.hid (H2.out.put (mcells n c (some ⟨g, 0, none⟩) (n * c) (n * c)) 27 (by decide))
    go_wp2_with fail
    obtain ⟨gm, hgm⟩ : ∃ x, w3.heap.size = x := ⟨_, rfl⟩
    obtain ⟨w4, hw4⟩ : ∃ x : World, w3.alloc (.cells #[.int .i64 (n : Int), .int .i64 (c : Int), .slice (some ⟨g, 0, none⟩) (n * c) (n * c)] 27) = x := ⟨_, rfl⟩
    have hw4' : w3.alloc (.cells (mcells n c (some ⟨g, 0, none⟩) (n * c) (n * c)) 27) = w4 := hw4
    rw [hw4', hgm] at H3
    rw [hw4, hgm]
    clear hw4 hw4' hgm
    go_loopw [38] (fun i wr => ∃ j : Nat, i = .int .i64 (j : Int) ∧ j ≤ n ∧ (∀ i, i < j → 0 ≤ ks.getD i 0 ∧ ks.getD i 0 < (r : Int)) ∧ WS w [(gm, 27, mcells n c (some ⟨g, 0, none⟩) (n * c) (n * c)), (g0, 27, #[.int .i64 0, .int .i64 0, .slice none 0 0]), (ga, 27, mcells r c A nn cap)] g (n * c) n c (pickUp m ks j) wr) (fun i _ => n - (intOf i).toNat)
    case atStart => exact ⟨0, rfl, Nat.zero_le _, fun i hi => absurd hi (Nat.not_lt_zero _), H3.out.congr fun x _ y _ => by unfold pickUp; rw [if_neg (by omega)]⟩
    case round =>
      obtain ⟨j, rfl, hj, hin, h⟩ := hrel
      have H4 := Lib.hid h
      have HIN := Lib.hid hin
      clear h H3 hin
      obtain ⟨w5, rfl⟩ : ∃ w5 : World, w5 = wr := ⟨_, rfl⟩
      by_cases hjn : j < n
      · have hj1 : (j : Int) < (n : Int) := by omega
        have hj0 : (0 : Int) ≤ (j : Int) := by omega
        have hwj : IntKind.i64.wrap ((j : Int) + 1) = ((j + 1 : Nat) : Int) := by have := HN.out.1.2.2; rw [IntWalk.i64_in _ (by omega)]; omega
        have HJ := Lib.hid hjn
        have hjl : j < (ks.map i64v).length := by rw [List.length_map, HN.out.2.1]; exact hjn
        obtain ⟨kb, ko, rfl, -, -⟩ := HK.out.at_ (k := j) hjl
        obtain ⟨v, hv⟩ : ∃ v, ks.getD j 0 = v := ⟨_, rfl⟩
        have HV := Lib.hid (show ∀ W : World, Below w.heap.size w W → W.cell? ⟨kb, ko + j, none⟩ = some (.int .i64 v) from fun W hW => by
          obtain ⟨b', o', e', _, hc⟩ := (HK.out.below hW).at_ (k := j) hjl
          injection e' with e'; injection e' with e1 e2; subst e1; subst e2
          rw [hc, List.getElem_map, ← hv, List.getD_eq_getElem?_getD, List.getElem?_eq_getElem (by rw [HN.out.2.1]; exact hjn)]; rfl)
        have HVE := Lib.hid hv
        have HVM := Lib.hid (show v ∈ ks from by rw [← hv, List.getD_eq_getElem?_getD, List.getElem?_eq_getElem (by rw [HN.out.2.1]; exact hjn)]; exact List.getElem_mem _)
        clear hv hjl
        obtain ⟨⟨a0, a1, a2⟩, _⟩ := H4.out.cells (.tail _ (.tail _ (.head _)))
        have hv0 := HV.out _ H4.out.below
        by_cases hvin : 0 ≤ v ∧ v < (r : Int)
        · obtain ⟨k, rfl⟩ : ∃ k : Nat, v = (k : Int) := ⟨v.toNat, by omega⟩
          have hkr : k < r := by omega
          have hk0 : ¬ (k : Int) < 0 := by omega
          have hk1 : ¬ (r : Int) ≤ (k : Int) := by omega
          have HKR := Lib.hid hkr
          have HMJ := Lib.hid (show pickM m ks j = m k from by unfold pickM; rw [HVE.out]; rfl)
          clear hvin hkr
          go_wp2_with fail
          clear a0 a1 a2 hv0
          refine wp_region_noPanic ?_
          refine wp_heldG (fun w' => (w'.cell? ⟨gm, 0, none⟩ = some (.int .i64 (n : Int)) ∧ w'.cell? ⟨gm, 1, none⟩ = some (.int .i64 (c : Int)) ∧ w'.cell? ⟨gm, 2, none⟩ = some (.slice (some ⟨g, 0, none⟩) (n * c) (n * c))) ∧ (w'.cell? ⟨ga, 0, none⟩ = some (.int .i64 (r : Int)) ∧ w'.cell? ⟨ga, 1, none⟩ = some (.int .i64 (c : Int)) ∧ w'.cell? ⟨ga, 2, none⟩ = some (.slice A nn cap))) [] (by kernel_rfl) ?hs0 ?rg0
          case hs0 =>
            have h := H4.out.keep (nextN (Mem.start w5) 1)
            exact ⟨(h.cells (.head _)).1, (h.cells (.tail _ (.tail _ (.head _)))).1⟩
          case rg0 =>
          intro hHeld
          refine wpAnyG_take (i := 0) (oi := { dst := some 52, op := Op.load 27 (Operand.tmp 6), type := 27, pos := _, after := #[], guard := none }) (v := ?_) rfl (by kernel_rfl) (by kernel_rfl) (by kernel_rfl) (by kernel_rfl) (fun _ _ _ h => h) (Or.inl ⟨by rfl, ?_⟩) (by assumption) ?_
          rotate_left
          · intro w hSw
            try dsimp only at hSw
            obtain ⟨⟨k0, k1, k2⟩, ⟨l0, l1, l2⟩⟩ := hSw
            go_simp
            try with_reducible rfl
          try simp only [Act.put, List.setIfInBounds_toArray, List.set_cons_zero, List.set_cons_succ]
          refine wpAnyG_pure (i := 1) (oi := { dst := some 53, op := Op.move (Operand.tmp 7), type := 3, pos := _, after := #[], guard := none }) (v := ?_) rfl (by kernel_rfl) (by kernel_rfl) (by kernel_rfl) (by kernel_rfl) (fun _ _ _ h => h) (Or.inl ⟨by rfl, ?_⟩) (fun _ => by assumption) ?_
          rotate_left
          · intro w hSw
            try dsimp only at hSw
            obtain ⟨⟨k0, k1, k2⟩, ⟨l0, l1, l2⟩⟩ := hSw
            go_simp
            try with_reducible rfl
          try simp only [Act.put, List.setIfInBounds_toArray, List.set_cons_zero, List.set_cons_succ]
          refine wpAnyG_take (i := 3) (oi := { dst := some 55, op := Op.load 27 (Operand.tmp 2), type := 27, pos := _, after := #[], guard := none }) (v := ?_) rfl (by kernel_rfl) (by kernel_rfl) (by kernel_rfl) (by kernel_rfl) (fun _ _ _ h => h) (Or.inl ⟨by rfl, ?_⟩) (by assumption) ?_
          rotate_left
          · intro w hSw
            try dsimp only at hSw
            obtain ⟨⟨k0, k1, k2⟩, ⟨l0, l1, l2⟩⟩ := hSw
            go_simp
            try with_reducible rfl
          try simp only [Act.put, List.setIfInBounds_toArray, List.set_cons_zero, List.set_cons_succ]
          refine wpAnyG_pure (i := 4) (oi := { dst := some 56, op := Op.move (Operand.tmp 8), type := 3, pos := _, after := #[], guard := none }) (v := ?_) rfl (by kernel_rfl) (by kernel_rfl) (by kernel_rfl) (by kernel_rfl) (fun _ _ _ h => h) (Or.inl ⟨by rfl, ?_⟩) (fun _ => by assumption) ?_
          rotate_left
          · intro w hSw
            try dsimp only at hSw
            obtain ⟨⟨k0, k1, k2⟩, ⟨l0, l1, l2⟩⟩ := hSw
            go_simp
            try with_reducible rfl
          try simp only [Act.put, List.setIfInBounds_toArray, List.set_cons_zero, List.set_cons_succ]
          refine wpAnyG_one (i := 2) (o := { dst := some 54, op := Op.call { callee := Callee.value (Operand.func 49), args := #[Operand.tmp 52, Operand.tmp 53], argTypes := #[27, 3] }, type := 22, pos := _, after := #[{ on := 0, ground := Ground.data }, { on := 1, ground := Ground.data }], guard := none }) (by kernel_rfl) rfl (fun K hK => ?_)
          have H5 := Lib.hid (show WS w [(gm, 27, mcells n c (some ⟨g, 0, none⟩) (n * c) (n * c)), (g0, 27, #[.int .i64 0, .int .i64 0, .slice none 0 0]), (ga, 27, mcells r c A nn cap)] g (n * c) n c (pickUp m ks j) w5.drew from H4.out.keep (nextN (Mem.start w5) 1))
          go_simp
          refine (row_any _ n c j (some ⟨g, 0, none⟩) (n * c) (n * c) HJ.out (by have := HN.out.1.2.2; omega) rfl (by have h1 : n * c ≤ 100 * 100 := Nat.mul_le_mul HN.out.1.2.2 HN.out.1.2.1; omega) (Nat.le_refl _)).mono ?_
          rintro e w6 ⟨rfl, hb⟩
          have H6 := Lib.hid (H5.out.keep hb)
          clear hb
          rw [rowA_at]
          try dsimp only
          refine hK.out _ _ ?_ (fun hHeld => ?_)
          · intro _
            try dsimp only
            exact ⟨(H6.out.cells (.head _)).1, (H6.out.cells (.tail _ (.tail _ (.head _)))).1⟩
          clear hK K
          try simp only [Act.put, List.setIfInBounds_toArray, List.set_cons_zero, List.set_cons_succ]
          have hHeld := hHeld (by kernel_rfl)
          refine wpAnyG_one (i := 5) (o := { dst := some 57, op := Op.call { callee := Callee.value (Operand.func 49), args := #[Operand.tmp 55, Operand.tmp 56], argTypes := #[27, 3] }, type := 22, pos := _, after := #[{ on := 3, ground := Ground.data }, { on := 4, ground := Ground.data }, { on := 2, ground := Ground.chain }], guard := none }) (by kernel_rfl) rfl (fun K hK => ?_)
          go_simp
          refine (row_any _ r c k A nn cap HKR.out (by have := HN.out.1.1; omega) HN.out.2.2.1 (by have h1 : r * c ≤ 100 * 100 := Nat.mul_le_mul HN.out.1.1 HN.out.1.2.1; have := HN.out.2.2.1; omega) HN.out.2.2.2).mono ?_
          rintro e w8 ⟨rfl, hb⟩
          have H8 := Lib.hid (H6.out.keep hb)
          clear hb
          try dsimp only
          refine hK.out _ _ ?_ (fun hHeld => ?_)
          · intro _
            try dsimp only
            exact ⟨(H8.out.cells (.head _)).1, (H8.out.cells (.tail _ (.tail _ (.head _)))).1⟩
          clear hK K
          try simp only [Act.put, List.setIfInBounds_toArray, List.set_cons_zero, List.set_cons_succ]
          have hHeld := hHeld (by kernel_rfl)
          refine wpAnyG_one (i := 6) (o := { dst := some 58, op := Op.call { callee := Callee.builtin Builtin.copy, args := #[Operand.tmp 54, Operand.tmp 57], argTypes := #[22, 22] }, type := 3, pos := _, after := #[{ on := 2, ground := Ground.data }, { on := 5, ground := Ground.data }, { on := 5, ground := Ground.chain }], guard := none }) (by kernel_rfl) rfl (fun K hK => ?_)
          have hob := own_blk H8.out.row (by rw [List.length_map, flat_len])
          refine step_copyin w8 rfl _ _ rfl g (j * c) c c (rowA A c k) c c (row c (m k)) 5 _ rfl rfl (by rw [row_len]; exact (Nat.min_self c).symm) hob.1 (by rw [row_len]; simp [flat_len]; exact idx_le HJ.out) ((rowB (HA.out.below H8.out.below) HKR.out).up H8.out.below.size) ?_
          intro w9 kk hblk hfr hsz
          have H7 := Lib.hid (show WS w [(gm, 27, mcells n c (some ⟨g, 0, none⟩) (n * c) (n * c)), (g0, 27, #[.int .i64 0, .int .i64 0, .slice none 0 0]), (ga, 27, mcells r c A nn cap)] g (n * c) n c (pickUp m ks (j + 1)) w9 from H8.out.copied hfr (by
            have h := hblk
            rw [row_len] at h
            have e : ((((flat n c (pickUp m ks j)).map u8v).toArray.toList.take (j * c) ++ (row c (m k)).map u8v ++ ((flat n c (pickUp m ks j)).map u8v).toArray.toList.drop (j * c + c)).toArray : Array Value) = ((flat n c (pickUp m ks (j + 1))).map u8v).toArray := by
              rw [← pickUp_next HMJ.out HJ.out, List.map_append, List.map_append, List.map_take, List.map_drop]
            rw [e] at h
            exact h))
          clear hblk hfr hsz hob
          try dsimp only
          refine hK.out _ _ ?_ (fun hHeld => ?_)
          · intro _
            try dsimp only
            exact ⟨(H7.out.cells (.head _)).1, (H7.out.cells (.tail _ (.tail _ (.head _)))).1⟩
          clear hK K
          try simp only [Act.put, List.setIfInBounds_toArray, List.set_cons_zero, List.set_cons_succ]
          have hHeld := hHeld (by kernel_rfl)
          refine wpAnyG_done (by kernel_rfl) ?_ _
          refine NoPanic.normal ?_
          clear hHeld
          go_wp2_with fail
          go_roundw
          case rel =>
            refine ⟨j + 1, by simp, HJ.out, fun i hi => ?_, H7.out⟩
            by_cases e : i = j
            · subst e
              rw [HVE.out]; have := HKR.out; omega
            · exact HIN.out i (by omega)
          case measure => simp [intOf]; omega
        · have HBAD := Lib.hid (show allIn r ks = false from by
            unfold allIn
            rw [List.all_eq_false]
            exact ⟨v, HVM.out, by simp only [decide_eq_true_eq]; exact hvin⟩)
          by_cases hv1 : v < 0
          · clear hvin
            obtain ⟨⟨d0, d1, d2⟩, f0, f1, f2⟩ := H4.out.cells (.tail _ (.head _))
            have hfin := H4.out.bs.end_ (.tail _ (.head _)) (.int .i64 0) (.int .i64 0) (.slice none 0 0)
            go_wp2_with fail
            obtain ⟨h1, h2, e0, e1, e2⟩ := hfin
            refine bodyPost_ret (v := .tuple #[.agg #[.int .i64 0, .int .i64 0, .slice none 0 0], .int .i64 2]) (by simp [results, Try.results28, go_sem, e0, e1, e2]) rfl ?_
            exact ⟨fun h => (by rw [HBAD.out] at h; cases h), fun _ => ⟨rfl, h1⟩⟩
          · have hv2 : (r : Int) ≤ v := by omega
            clear hvin
            obtain ⟨⟨d0, d1, d2⟩, f0, f1, f2⟩ := H4.out.cells (.tail _ (.head _))
            have hfin := H4.out.bs.end_ (.tail _ (.head _)) (.int .i64 0) (.int .i64 0) (.slice none 0 0)
            go_wp2_with fail
            obtain ⟨h1, h2, e0, e1, e2⟩ := hfin
            refine bodyPost_ret (v := .tuple #[.agg #[.int .i64 0, .int .i64 0, .slice none 0 0], .int .i64 2]) (by simp [results, Try.results28, go_sem, e0, e1, e2]) rfl ?_
            exact ⟨fun h => (by rw [HBAD.out] at h; cases h), fun _ => ⟨rfl, h1⟩⟩
      · obtain rfl : n = j := by omega
        have HOK := Lib.hid (show allIn r ks = true from by
          unfold allIn
          rw [List.all_eq_true]
          intro v hv
          obtain ⟨i, hi, e⟩ := List.mem_iff_getElem.1 hv
          have h := HIN.out i (by rw [← HN.out.2.1]; exact hi)
          rw [List.getD_eq_getElem?_getD, List.getElem?_eq_getElem hi, Option.getD_some, e] at h
          exact decide_eq_true h)
        obtain ⟨⟨c0, c1, c2'⟩, _⟩ := H4.out.cells (.head _)
        obtain ⟨⟨d0, d1, d2⟩, f0, f1, f2⟩ := H4.out.cells (.tail _ (.head _))
        have hfin := H4.out.end_ (.tail _ (.head _)) (.int .i64 (n : Int)) (.int .i64 (c : Int)) (.slice (some ⟨g, 0, none⟩) (n * c) (n * c))
        go_wp2_with fail
        obtain ⟨h1, h2, e0, e1, e2⟩ := hfin
        refine bodyPost_ret (v := .tuple #[.agg #[.int .i64 (n : Int), .int .i64 (c : Int), .slice (some ⟨g, 0, none⟩) (n * c) (n * c)], .int .i64 0]) (by simp [results, Try.results28, go_sem, e0, e1, e2]) rfl ?_
        refine ⟨fun _ => ⟨some ⟨g, 0, none⟩, n * c, rfl, Nat.le_refl _, ?_, h1⟩, fun h => ?_⟩
        · rw [flat_congr (m' := pickM m ks) fun a ha b hb => by unfold pickUp; rw [if_pos ha]] at h2
          exact h2
        · rw [HOK.out] at h; cases h
  · clear hd
    obtain ⟨⟨a0, a1, a2⟩, _⟩ := H1.out.cells (.tail _ (.head _))
    go_wp2_with fail
    clear a0 a1 a2
    refine (none_any w2 n c (by have h1 : n * c ≤ 100 * 100 := Nat.mul_le_mul HN.out.1.2.2 HN.out.1.2.1; omega)).mono ?_
    rintro e w3 ⟨g, rfl, ho, hb⟩
    have H2 := Lib.hid (H1.out.none_ (g := g) (cap := n * c) (r := n) (c := c) (m := fun _ _ => 0) (show Wm w3 w.heap.size g (n * c) n c _ from ho.down H1.out.below.size) hb)
    clear ho hb
    have H3 := Lib.hid (H2.out.put (mcells n c (some ⟨g, 0, none⟩) (n * c) (n * c)) 27 (by decide))
    go_wp2_with fail
    obtain ⟨gm, hgm⟩ : ∃ x, w3.heap.size = x := ⟨_, rfl⟩
    obtain ⟨w4, hw4⟩ : ∃ x : World, w3.alloc (.cells #[.int .i64 (n : Int), .int .i64 (c : Int), .slice (some ⟨g, 0, none⟩) (n * c) (n * c)] 27) = x := ⟨_, rfl⟩
    have hw4' : w3.alloc (.cells (mcells n c (some ⟨g, 0, none⟩) (n * c) (n * c)) 27) = w4 := hw4
    rw [hw4', hgm] at H3
    rw [hw4, hgm]
    clear hw4 hw4' hgm
    go_loopw [38] (fun i wr => ∃ j : Nat, i = .int .i64 (j : Int) ∧ j ≤ n ∧ (∀ i, i < j → 0 ≤ ks.getD i 0 ∧ ks.getD i 0 < (r : Int)) ∧ WS w [(gm, 27, mcells n c (some ⟨g, 0, none⟩) (n * c) (n * c)), (g0, 27, #[.int .i64 0, .int .i64 0, .slice none 0 0]), (ga, 27, mcells r c A nn cap)] g (n * c) n c (pickUp m ks j) wr) (fun i _ => n - (intOf i).toNat)
    case atStart => exact ⟨0, rfl, Nat.zero_le _, fun i hi => absurd hi (Nat.not_lt_zero _), H3.out.congr fun x _ y _ => by unfold pickUp; rw [if_neg (by omega)]⟩
    case round =>
      obtain ⟨j, rfl, hj, hin, h⟩ := hrel
      have H4 := Lib.hid h
      have HIN := Lib.hid hin
      clear h H3 hin
      obtain ⟨w5, rfl⟩ : ∃ w5 : World, w5 = wr := ⟨_, rfl⟩
      by_cases hjn : j < n
      · have hj1 : (j : Int) < (n : Int) := by omega
        have hj0 : (0 : Int) ≤ (j : Int) := by omega
        have hwj : IntKind.i64.wrap ((j : Int) + 1) = ((j + 1 : Nat) : Int) := by have := HN.out.1.2.2; rw [IntWalk.i64_in _ (by omega)]; omega
        have HJ := Lib.hid hjn
        have hjl : j < (ks.map i64v).length := by rw [List.length_map, HN.out.2.1]; exact hjn
        obtain ⟨kb, ko, rfl, -, -⟩ := HK.out.at_ (k := j) hjl
        obtain ⟨v, hv⟩ : ∃ v, ks.getD j 0 = v := ⟨_, rfl⟩
        have HV := Lib.hid (show ∀ W : World, Below w.heap.size w W → W.cell? ⟨kb, ko + j, none⟩ = some (.int .i64 v) from fun W hW => by
          obtain ⟨b', o', e', _, hc⟩ := (HK.out.below hW).at_ (k := j) hjl
          injection e' with e'; injection e' with e1 e2; subst e1; subst e2
          rw [hc, List.getElem_map, ← hv, List.getD_eq_getElem?_getD, List.getElem?_eq_getElem (by rw [HN.out.2.1]; exact hjn)]; rfl)
        have HVE := Lib.hid hv
        have HVM := Lib.hid (show v ∈ ks from by rw [← hv, List.getD_eq_getElem?_getD, List.getElem?_eq_getElem (by rw [HN.out.2.1]; exact hjn)]; exact List.getElem_mem _)
        clear hv hjl
        obtain ⟨⟨a0, a1, a2⟩, _⟩ := H4.out.cells (.tail _ (.tail _ (.head _)))
        have hv0 := HV.out _ H4.out.below
        by_cases hvin : 0 ≤ v ∧ v < (r : Int)
        · obtain ⟨k, rfl⟩ : ∃ k : Nat, v = (k : Int) := ⟨v.toNat, by omega⟩
          have hkr : k < r := by omega
          have hk0 : ¬ (k : Int) < 0 := by omega
          have hk1 : ¬ (r : Int) ≤ (k : Int) := by omega
          have HKR := Lib.hid hkr
          have HMJ := Lib.hid (show pickM m ks j = m k from by unfold pickM; rw [HVE.out]; rfl)
          clear hvin hkr
          go_wp2_with fail
          clear a0 a1 a2 hv0
          refine wp_region_noPanic ?_
          refine wp_heldG (fun w' => (w'.cell? ⟨gm, 0, none⟩ = some (.int .i64 (n : Int)) ∧ w'.cell? ⟨gm, 1, none⟩ = some (.int .i64 (c : Int)) ∧ w'.cell? ⟨gm, 2, none⟩ = some (.slice (some ⟨g, 0, none⟩) (n * c) (n * c))) ∧ (w'.cell? ⟨ga, 0, none⟩ = some (.int .i64 (r : Int)) ∧ w'.cell? ⟨ga, 1, none⟩ = some (.int .i64 (c : Int)) ∧ w'.cell? ⟨ga, 2, none⟩ = some (.slice A nn cap))) [] (by kernel_rfl) ?hs0 ?rg0
          case hs0 =>
            have h := H4.out.keep (nextN (Mem.start w5) 1)
            exact ⟨(h.cells (.head _)).1, (h.cells (.tail _ (.tail _ (.head _)))).1⟩
          case rg0 =>
          intro hHeld
          refine wpAnyG_take (i := 0) (oi := { dst := some 52, op := Op.load 27 (Operand.tmp 6), type := 27, pos := _, after := #[], guard := none }) (v := ?_) rfl (by kernel_rfl) (by kernel_rfl) (by kernel_rfl) (by kernel_rfl) (fun _ _ _ h => h) (Or.inl ⟨by rfl, ?_⟩) (by assumption) ?_
          rotate_left
          · intro w hSw
            try dsimp only at hSw
            obtain ⟨⟨k0, k1, k2⟩, ⟨l0, l1, l2⟩⟩ := hSw
            go_simp
            try with_reducible rfl
          try simp only [Act.put, List.setIfInBounds_toArray, List.set_cons_zero, List.set_cons_succ]
          refine wpAnyG_pure (i := 1) (oi := { dst := some 53, op := Op.move (Operand.tmp 7), type := 3, pos := _, after := #[], guard := none }) (v := ?_) rfl (by kernel_rfl) (by kernel_rfl) (by kernel_rfl) (by kernel_rfl) (fun _ _ _ h => h) (Or.inl ⟨by rfl, ?_⟩) (fun _ => by assumption) ?_
          rotate_left
          · intro w hSw
            try dsimp only at hSw
            obtain ⟨⟨k0, k1, k2⟩, ⟨l0, l1, l2⟩⟩ := hSw
            go_simp
            try with_reducible rfl
          try simp only [Act.put, List.setIfInBounds_toArray, List.set_cons_zero, List.set_cons_succ]
          refine wpAnyG_take (i := 3) (oi := { dst := some 55, op := Op.load 27 (Operand.tmp 2), type := 27, pos := _, after := #[], guard := none }) (v := ?_) rfl (by kernel_rfl) (by kernel_rfl) (by kernel_rfl) (by kernel_rfl) (fun _ _ _ h => h) (Or.inl ⟨by rfl, ?_⟩) (by assumption) ?_
          rotate_left
          · intro w hSw
            try dsimp only at hSw
            obtain ⟨⟨k0, k1, k2⟩, ⟨l0, l1, l2⟩⟩ := hSw
            go_simp
            try with_reducible rfl
          try simp only [Act.put, List.setIfInBounds_toArray, List.set_cons_zero, List.set_cons_succ]
          refine wpAnyG_pure (i := 4) (oi := { dst := some 56, op := Op.move (Operand.tmp 8), type := 3, pos := _, after := #[], guard := none }) (v := ?_) rfl (by kernel_rfl) (by kernel_rfl) (by kernel_rfl) (by kernel_rfl) (fun _ _ _ h => h) (Or.inl ⟨by rfl, ?_⟩) (fun _ => by assumption) ?_
          rotate_left
          · intro w hSw
            try dsimp only at hSw
            obtain ⟨⟨k0, k1, k2⟩, ⟨l0, l1, l2⟩⟩ := hSw
            go_simp
            try with_reducible rfl
          try simp only [Act.put, List.setIfInBounds_toArray, List.set_cons_zero, List.set_cons_succ]
          refine wpAnyG_one (i := 2) (o := { dst := some 54, op := Op.call { callee := Callee.value (Operand.func 49), args := #[Operand.tmp 52, Operand.tmp 53], argTypes := #[27, 3] }, type := 22, pos := _, after := #[{ on := 0, ground := Ground.data }, { on := 1, ground := Ground.data }], guard := none }) (by kernel_rfl) rfl (fun K hK => ?_)
          have H5 := Lib.hid (show WS w [(gm, 27, mcells n c (some ⟨g, 0, none⟩) (n * c) (n * c)), (g0, 27, #[.int .i64 0, .int .i64 0, .slice none 0 0]), (ga, 27, mcells r c A nn cap)] g (n * c) n c (pickUp m ks j) w5.drew from H4.out.keep (nextN (Mem.start w5) 1))
          go_simp
          refine (row_any _ n c j (some ⟨g, 0, none⟩) (n * c) (n * c) HJ.out (by have := HN.out.1.2.2; omega) rfl (by have h1 : n * c ≤ 100 * 100 := Nat.mul_le_mul HN.out.1.2.2 HN.out.1.2.1; omega) (Nat.le_refl _)).mono ?_
          rintro e w6 ⟨rfl, hb⟩
          have H6 := Lib.hid (H5.out.keep hb)
          clear hb
          rw [rowA_at]
          try dsimp only
          refine hK.out _ _ ?_ (fun hHeld => ?_)
          · intro _
            try dsimp only
            exact ⟨(H6.out.cells (.head _)).1, (H6.out.cells (.tail _ (.tail _ (.head _)))).1⟩
          clear hK K
          try simp only [Act.put, List.setIfInBounds_toArray, List.set_cons_zero, List.set_cons_succ]
          have hHeld := hHeld (by kernel_rfl)
          refine wpAnyG_one (i := 5) (o := { dst := some 57, op := Op.call { callee := Callee.value (Operand.func 49), args := #[Operand.tmp 55, Operand.tmp 56], argTypes := #[27, 3] }, type := 22, pos := _, after := #[{ on := 3, ground := Ground.data }, { on := 4, ground := Ground.data }, { on := 2, ground := Ground.chain }], guard := none }) (by kernel_rfl) rfl (fun K hK => ?_)
          go_simp
          refine (row_any _ r c k A nn cap HKR.out (by have := HN.out.1.1; omega) HN.out.2.2.1 (by have h1 : r * c ≤ 100 * 100 := Nat.mul_le_mul HN.out.1.1 HN.out.1.2.1; have := HN.out.2.2.1; omega) HN.out.2.2.2).mono ?_
          rintro e w8 ⟨rfl, hb⟩
          have H8 := Lib.hid (H6.out.keep hb)
          clear hb
          try dsimp only
          refine hK.out _ _ ?_ (fun hHeld => ?_)
          · intro _
            try dsimp only
            exact ⟨(H8.out.cells (.head _)).1, (H8.out.cells (.tail _ (.tail _ (.head _)))).1⟩
          clear hK K
          try simp only [Act.put, List.setIfInBounds_toArray, List.set_cons_zero, List.set_cons_succ]
          have hHeld := hHeld (by kernel_rfl)
          refine wpAnyG_one (i := 6) (o := { dst := some 58, op := Op.call { callee := Callee.builtin Builtin.copy, args := #[Operand.tmp 54, Operand.tmp 57], argTypes := #[22, 22] }, type := 3, pos := _, after := #[{ on := 2, ground := Ground.data }, { on := 5, ground := Ground.data }, { on := 5, ground := Ground.chain }], guard := none }) (by kernel_rfl) rfl (fun K hK => ?_)
          have hob := own_blk H8.out.row (by rw [List.length_map, flat_len])
          refine step_copyin w8 rfl _ _ rfl g (j * c) c c (rowA A c k) c c (row c (m k)) 5 _ rfl rfl (by rw [row_len]; exact (Nat.min_self c).symm) hob.1 (by rw [row_len]; simp [flat_len]; exact idx_le HJ.out) ((rowB (HA.out.below H8.out.below) HKR.out).up H8.out.below.size) ?_
          intro w9 kk hblk hfr hsz
          have H7 := Lib.hid (show WS w [(gm, 27, mcells n c (some ⟨g, 0, none⟩) (n * c) (n * c)), (g0, 27, #[.int .i64 0, .int .i64 0, .slice none 0 0]), (ga, 27, mcells r c A nn cap)] g (n * c) n c (pickUp m ks (j + 1)) w9 from H8.out.copied hfr (by
            have h := hblk
            rw [row_len] at h
            have e : ((((flat n c (pickUp m ks j)).map u8v).toArray.toList.take (j * c) ++ (row c (m k)).map u8v ++ ((flat n c (pickUp m ks j)).map u8v).toArray.toList.drop (j * c + c)).toArray : Array Value) = ((flat n c (pickUp m ks (j + 1))).map u8v).toArray := by
              rw [← pickUp_next HMJ.out HJ.out, List.map_append, List.map_append, List.map_take, List.map_drop]
            rw [e] at h
            exact h))
          clear hblk hfr hsz hob
          try dsimp only
          refine hK.out _ _ ?_ (fun hHeld => ?_)
          · intro _
            try dsimp only
            exact ⟨(H7.out.cells (.head _)).1, (H7.out.cells (.tail _ (.tail _ (.head _)))).1⟩
          clear hK K
          try simp only [Act.put, List.setIfInBounds_toArray, List.set_cons_zero, List.set_cons_succ]
          have hHeld := hHeld (by kernel_rfl)
          refine wpAnyG_done (by kernel_rfl) ?_ _
          refine NoPanic.normal ?_
          clear hHeld
          go_wp2_with fail
          go_roundw
          case rel =>
            refine ⟨j + 1, by simp, HJ.out, fun i hi => ?_, H7.out⟩
            by_cases e : i = j
            · subst e
              rw [HVE.out]; have := HKR.out; omega
            · exact HIN.out i (by omega)
          case measure => simp [intOf]; omega
        · have HBAD := Lib.hid (show allIn r ks = false from by
            unfold allIn
            rw [List.all_eq_false]
            exact ⟨v, HVM.out, by simp only [decide_eq_true_eq]; exact hvin⟩)
          by_cases hv1 : v < 0
          · clear hvin
            obtain ⟨⟨d0, d1, d2⟩, f0, f1, f2⟩ := H4.out.cells (.tail _ (.head _))
            have hfin := H4.out.bs.end_ (.tail _ (.head _)) (.int .i64 0) (.int .i64 0) (.slice none 0 0)
            go_wp2_with fail
            obtain ⟨h1, h2, e0, e1, e2⟩ := hfin
            refine bodyPost_ret (v := .tuple #[.agg #[.int .i64 0, .int .i64 0, .slice none 0 0], .int .i64 2]) (by simp [results, Try.results28, go_sem, e0, e1, e2]) rfl ?_
            exact ⟨fun h => (by rw [HBAD.out] at h; cases h), fun _ => ⟨rfl, h1⟩⟩
          · have hv2 : (r : Int) ≤ v := by omega
            clear hvin
            obtain ⟨⟨d0, d1, d2⟩, f0, f1, f2⟩ := H4.out.cells (.tail _ (.head _))
            have hfin := H4.out.bs.end_ (.tail _ (.head _)) (.int .i64 0) (.int .i64 0) (.slice none 0 0)
            go_wp2_with fail
            obtain ⟨h1, h2, e0, e1, e2⟩ := hfin
            refine bodyPost_ret (v := .tuple #[.agg #[.int .i64 0, .int .i64 0, .slice none 0 0], .int .i64 2]) (by simp [results, Try.results28, go_sem, e0, e1, e2]) rfl ?_
            exact ⟨fun h => (by rw [HBAD.out] at h; cases h), fun _ => ⟨rfl, h1⟩⟩
      · obtain rfl : n = j := by omega
        have HOK := Lib.hid (show allIn r ks = true from by
          unfold allIn
          rw [List.all_eq_true]
          intro v hv
          obtain ⟨i, hi, e⟩ := List.mem_iff_getElem.1 hv
          have h := HIN.out i (by rw [← HN.out.2.1]; exact hi)
          rw [List.getD_eq_getElem?_getD, List.getElem?_eq_getElem hi, Option.getD_some, e] at h
          exact decide_eq_true h)
        obtain ⟨⟨c0, c1, c2'⟩, _⟩ := H4.out.cells (.head _)
        obtain ⟨⟨d0, d1, d2⟩, f0, f1, f2⟩ := H4.out.cells (.tail _ (.head _))
        have hfin := H4.out.end_ (.tail _ (.head _)) (.int .i64 (n : Int)) (.int .i64 (c : Int)) (.slice (some ⟨g, 0, none⟩) (n * c) (n * c))
        go_wp2_with fail
        obtain ⟨h1, h2, e0, e1, e2⟩ := hfin
        refine bodyPost_ret (v := .tuple #[.agg #[.int .i64 (n : Int), .int .i64 (c : Int), .slice (some ⟨g, 0, none⟩) (n * c) (n * c)], .int .i64 0]) (by simp [results, Try.results28, go_sem, e0, e1, e2]) rfl ?_
        refine ⟨fun _ => ⟨some ⟨g, 0, none⟩, n * c, rfl, Nat.le_refl _, ?_, h1⟩, fun h => ?_⟩
        · rw [flat_congr (m' := pickM m ks) fun a ha b hb => by unfold pickUp; rw [if_pos ha]] at h2
          exact h2
        · rw [HOK.out] at h; cases h
end Go.Proofs.Ythdapoipfnnaeaa.MxW
/- The examples of chapter 05 hold. -/
namespace Go.Proofs.Ythdapoipfnnaeaa.MxW
open Go.RowKit Go.Shelf Mem Gf FdW Mx Rng
open PlW (In)
set_option linter.unusedVariables false
set_option linter.unusedSectionVars false
attribute [local go_sem] Oper.semAt_some wide_fn
set_option maxRecDepth 100000 in
set_option maxHeartbeats 4000000 in
theorem works_any (w : World) : Calls Try.prog 11 #[] w fun e w' => e = .returned (.bool true) ∧ Below w.heap.size w w' := by
  have H0 := Lib.hid (MS.start w)
  go_enter Try.func11, Try.ntmps11
  go_wp2_with fail
  refine (newR H0.out).mono ?_
  rintro e w1 ⟨rfl, h⟩
  have H1 := Lib.hid h
  clear h
  have hb1 := Mx_build4 w1 1 2 0 1
  have L1 := Lib.hid (show MS _ _ (⟨some ⟨w1.heap.size, 0, none⟩, [1, 2, 0, 1], 4⟩ :: _) _ (w1.alloc (.cells #[.int .u8 1, .int .u8 2, .int .u8 0, .int .u8 1] 5)) from by have h := H1.out.lit #[.int .u8 1, .int .u8 2, .int .u8 0, .int .u8 1] [1, 2, 0, 1] (by simp [maxLen]) rfl 4 (by decide); (try simp only [World.size_alloc] at h); exact h)
  have hb2 := Mx_build2 (w1.alloc (.cells #[.int .u8 1, .int .u8 2, .int .u8 0, .int .u8 1] 5)) 3 4
  have L2 := Lib.hid (show MS _ _ (⟨some ⟨w1.heap.size + 1, 0, none⟩, [3, 4], 2⟩ :: _) _ ((w1.alloc (.cells #[.int .u8 1, .int .u8 2, .int .u8 0, .int .u8 1] 5)).alloc (.cells #[.int .u8 3, .int .u8 4] 5)) from by have h := L1.out.lit #[.int .u8 3, .int .u8 4] [3, 4] (by simp [maxLen]) rfl 2 (by decide); (try simp only [World.size_alloc] at h); exact h)
  go_wp2_with fail
  clear hb1 hb2
  have H2 := L2
  clear L1 L2
  generalize ((w1.alloc (.cells #[.int .u8 1, .int .u8 2, .int .u8 0, .int .u8 1] 5)).alloc (.cells #[.int .u8 3, .int .u8 4] 5)) = w2 at *
  refine (mulR H2.out (r := 2) (c := 2) (d := 1) (.tail _ (.head _)) (.head _) rfl rfl ⟨rfl, rfl, rfl, rfl⟩ (by decide) ((flat_ent rfl).symm) ((flat_ent rfl).symm) 2 1 2 ⟨rfl, rfl, rfl⟩ (l := [11, 4]) (by decide +kernel)).mono ?_
  rintro e w3 ⟨A3, c3, rfl, h⟩
  have H3 := Lib.hid h
  clear h
  have L3 := Lib.hid (show MS _ _ _ ((w3.heap.size, #[.int .i64 2, .int .i64 1, .slice A3 2 c3]) :: _) (w3.alloc (.cells #[.int .i64 2, .int .i64 1, .slice A3 2 c3] 27)) from by have h := H3.out.put #[.int .i64 2, .int .i64 1, .slice A3 2 c3]; (try simp only [World.size_alloc] at h); exact h)
  have hb4 := Mx_build4 (w3.alloc (.cells #[.int .i64 2, .int .i64 1, .slice A3 2 c3] 27)) 1 1 1 1
  have L4 := Lib.hid (show MS _ _ (⟨some ⟨w3.heap.size + 1, 0, none⟩, [1, 1, 1, 1], 4⟩ :: _) _ ((w3.alloc (.cells #[.int .i64 2, .int .i64 1, .slice A3 2 c3] 27)).alloc (.cells #[.int .u8 1, .int .u8 1, .int .u8 1, .int .u8 1] 5)) from by have h := L3.out.lit #[.int .u8 1, .int .u8 1, .int .u8 1, .int .u8 1] [1, 1, 1, 1] (by simp [maxLen]) rfl 4 (by decide); (try simp only [World.size_alloc] at h); exact h)
  go_wp2_with fail
  clear hb4
  have H4 := L4
  clear L3 L4
  generalize ((w3.alloc (.cells #[.int .i64 2, .int .i64 1, .slice A3 2 c3] 27)).alloc (.cells #[.int .u8 1, .int .u8 1, .int .u8 1, .int .u8 1] 5)) = w4 at *
  refine (rankR H4.out (r := 2) (c := 2) (.head _) rfl ⟨rfl, rfl⟩ (by decide) ((flat_ent rfl).symm) 1 (by decide +kernel)).mono ?_
  rintro e w5 ⟨rfl, h⟩
  have H5 := Lib.hid h
  clear h
  have hb5 := Mx_build4 w5 1 1 1 1
  have L5 := Lib.hid (show MS _ _ (⟨some ⟨w5.heap.size, 0, none⟩, [1, 1, 1, 1], 4⟩ :: _) _ (w5.alloc (.cells #[.int .u8 1, .int .u8 1, .int .u8 1, .int .u8 1] 5)) from by have h := H5.out.lit #[.int .u8 1, .int .u8 1, .int .u8 1, .int .u8 1] [1, 1, 1, 1] (by simp [maxLen]) rfl 4 (by decide); (try simp only [World.size_alloc] at h); exact h)
  go_wp2_with fail
  clear hb5
  have H6 := L5
  clear L5
  generalize (w5.alloc (.cells #[.int .u8 1, .int .u8 1, .int .u8 1, .int .u8 1] 5)) = w6 at *
  refine (inv1R H6.out (r := 2) (.head _) rfl ⟨rfl, rfl⟩ (by decide) ((flat_ent rfl).symm) (by decide +kernel)).mono ?_
  rintro e w7 ⟨rfl, h⟩
  have H7 := Lib.hid h
  clear h
  have L6 := Lib.hid (show MS _ _ _ ((w7.heap.size, #[.int .i64 0, .int .i64 0, .slice none 0 0]) :: _) (w7.alloc (.cells #[.int .i64 0, .int .i64 0, .slice none 0 0] 27)) from by have h := H7.out.put #[.int .i64 0, .int .i64 0, .slice none 0 0]; (try simp only [World.size_alloc] at h); exact h)
  have hb7 := Mx_build4 (w7.alloc (.cells #[.int .i64 0, .int .i64 0, .slice none 0 0] 27)) 1 1 0 1
  have L7 := Lib.hid (show MS _ _ (⟨some ⟨w7.heap.size + 1, 0, none⟩, [1, 1, 0, 1], 4⟩ :: _) _ ((w7.alloc (.cells #[.int .i64 0, .int .i64 0, .slice none 0 0] 27)).alloc (.cells #[.int .u8 1, .int .u8 1, .int .u8 0, .int .u8 1] 5)) from by have h := L6.out.lit #[.int .u8 1, .int .u8 1, .int .u8 0, .int .u8 1] [1, 1, 0, 1] (by simp [maxLen]) rfl 4 (by decide); (try simp only [World.size_alloc] at h); exact h)
  go_wp2_with fail
  clear hb7
  have H8 := L7
  clear L6 L7
  generalize ((w7.alloc (.cells #[.int .i64 0, .int .i64 0, .slice none 0 0] 27)).alloc (.cells #[.int .u8 1, .int .u8 1, .int .u8 0, .int .u8 1] 5)) = w8 at *
  refine (invR H8.out (r := 2) (.head _) rfl ⟨rfl, rfl⟩ (by decide) ((flat_ent rfl).symm) (by decide +kernel) 2 4 ⟨rfl, rfl⟩ (l := [1, 1, 0, 1]) (by decide +kernel)).mono ?_
  rintro e w9 ⟨A9, c9, rfl, h⟩
  have H9 := Lib.hid h
  clear h
  have L8 := Lib.hid (show MS _ _ _ ((w9.heap.size, #[.int .i64 2, .int .i64 2, .slice A9 4 c9]) :: _) (w9.alloc (.cells #[.int .i64 2, .int .i64 2, .slice A9 4 c9] 27)) from by have h := H9.out.put #[.int .i64 2, .int .i64 2, .slice A9 4 c9]; (try simp only [World.size_alloc] at h); exact h)
  have hb9 := Mx_build3 (w9.alloc (.cells #[.int .i64 2, .int .i64 2, .slice A9 4 c9] 27)) 1 2 3
  have L9 := Lib.hid (show MS _ _ (⟨some ⟨w9.heap.size + 1, 0, none⟩, [1, 2, 3], 3⟩ :: _) _ ((w9.alloc (.cells #[.int .i64 2, .int .i64 2, .slice A9 4 c9] 27)).alloc (.cells #[.int .u8 1, .int .u8 2, .int .u8 3] 5)) from by have h := L8.out.lit #[.int .u8 1, .int .u8 2, .int .u8 3] [1, 2, 3] (by simp [maxLen]) rfl 3 (by decide); (try simp only [World.size_alloc] at h); exact h)
  go_wp2_with fail
  clear hb9
  have H10 := L9
  clear L8 L9
  generalize ((w9.alloc (.cells #[.int .i64 2, .int .i64 2, .slice A9 4 c9] 27)).alloc (.cells #[.int .u8 1, .int .u8 2, .int .u8 3] 5)) = w10 at *
  refine (symR H10.out (r := 2) (.head _) (by simp [maxLen]) rfl rfl (by decide) rfl 4 rfl (l := [1, 2, 2, 3]) (by decide +kernel)).mono ?_
  rintro e w11 ⟨A11, c11, rfl, h⟩
  have H11 := Lib.hid h
  clear h
  have L10 := Lib.hid (show MS _ _ _ ((w11.heap.size, #[.int .i64 2, .int .i64 2, .slice A11 4 c11]) :: _) (w11.alloc (.cells #[.int .i64 2, .int .i64 2, .slice A11 4 c11] 27)) from by have h := H11.out.put #[.int .i64 2, .int .i64 2, .slice A11 4 c11]; (try simp only [World.size_alloc] at h); exact h)
  have hb11 := Mx_build2 (w11.alloc (.cells #[.int .i64 2, .int .i64 2, .slice A11 4 c11] 27)) 1 1
  have L11 := Lib.hid (show MS _ _ (⟨some ⟨w11.heap.size + 1, 0, none⟩, [1, 1], 2⟩ :: _) _ ((w11.alloc (.cells #[.int .i64 2, .int .i64 2, .slice A11 4 c11] 27)).alloc (.cells #[.int .u8 1, .int .u8 1] 5)) from by have h := L10.out.lit #[.int .u8 1, .int .u8 1] [1, 1] (by simp [maxLen]) rfl 2 (by decide); (try simp only [World.size_alloc] at h); exact h)
  have L12 := Lib.hid (show MS _ _ _ ((w11.heap.size + 1 + 1, #[.int .i64 2, .int .i64 1, .slice (some ⟨w11.heap.size + 1, 0, none⟩) 2 2]) :: _) (((w11.alloc (.cells #[.int .i64 2, .int .i64 2, .slice A11 4 c11] 27)).alloc (.cells #[.int .u8 1, .int .u8 1] 5)).alloc (.cells #[.int .i64 2, .int .i64 1, .slice (some ⟨w11.heap.size + 1, 0, none⟩) 2 2] 27)) from by have h := L11.out.put #[.int .i64 2, .int .i64 1, .slice (some ⟨w11.heap.size + 1, 0, none⟩) 2 2]; (try simp only [World.size_alloc] at h); exact h)
  obtain ⟨a13, b13, d13⟩ := L12.out.cells (.head _)
  have hb14 := Mx_build2 (((w11.alloc (.cells #[.int .i64 2, .int .i64 2, .slice A11 4 c11] 27)).alloc (.cells #[.int .u8 1, .int .u8 1] 5)).alloc (.cells #[.int .i64 2, .int .i64 1, .slice (some ⟨w11.heap.size + 1, 0, none⟩) 2 2] 27)) 5 5
  have L14 := Lib.hid (show MS _ _ (⟨some ⟨w11.heap.size + 1 + 1 + 1, 0, none⟩, [5, 5], 2⟩ :: _) _ ((((w11.alloc (.cells #[.int .i64 2, .int .i64 2, .slice A11 4 c11] 27)).alloc (.cells #[.int .u8 1, .int .u8 1] 5)).alloc (.cells #[.int .i64 2, .int .i64 1, .slice (some ⟨w11.heap.size + 1, 0, none⟩) 2 2] 27)).alloc (.cells #[.int .u8 5, .int .u8 5] 5)) from by have h := L12.out.lit #[.int .u8 5, .int .u8 5] [5, 5] (by simp [maxLen]) rfl 2 (by decide); (try simp only [World.size_alloc] at h); exact h)
  go_wp2_with fail
  clear hb11 a13 b13 d13 hb14
  have H12 := L14
  clear L10 L11 L12 L14
  generalize ((((w11.alloc (.cells #[.int .i64 2, .int .i64 2, .slice A11 4 c11] 27)).alloc (.cells #[.int .u8 1, .int .u8 1] 5)).alloc (.cells #[.int .i64 2, .int .i64 1, .slice (some ⟨w11.heap.size + 1, 0, none⟩) 2 2] 27)).alloc (.cells #[.int .u8 5, .int .u8 5] 5)) = w12 at *
  refine (solveR H12.out (r := 2) (c := 1) (d := 1) (.tail _ (.head _)) (.head _) rfl rfl ⟨rfl, rfl, rfl, rfl⟩ (by decide) ((flat_ent rfl).symm) ((flat_ent rfl).symm) (by decide +kernel) 1 1 1 ⟨rfl, rfl, rfl⟩ (l := [5]) (by decide +kernel)).mono ?_
  rintro e w13 ⟨A13, c13, rfl, h⟩
  have H13 := Lib.hid h
  clear h
  have L15 := Lib.hid (show MS _ _ _ ((w13.heap.size, #[.int .i64 1, .int .i64 1, .slice A13 1 c13]) :: _) (w13.alloc (.cells #[.int .i64 1, .int .i64 1, .slice A13 1 c13] 27)) from by have h := H13.out.put #[.int .i64 1, .int .i64 1, .slice A13 1 c13]; (try simp only [World.size_alloc] at h); exact h)
  obtain ⟨a16, b16, d16⟩ := L15.out.cells (.tail _ (.head _))
  have hb17 := Mx_build2 (w13.alloc (.cells #[.int .i64 1, .int .i64 1, .slice A13 1 c13] 27)) 5 6
  have L17 := Lib.hid (show MS _ _ (⟨some ⟨w13.heap.size + 1, 0, none⟩, [5, 6], 2⟩ :: _) _ ((w13.alloc (.cells #[.int .i64 1, .int .i64 1, .slice A13 1 c13] 27)).alloc (.cells #[.int .u8 5, .int .u8 6] 5)) from by have h := L15.out.lit #[.int .u8 5, .int .u8 6] [5, 6] (by simp [maxLen]) rfl 2 (by decide); (try simp only [World.size_alloc] at h); exact h)
  go_wp2_with fail
  clear a16 b16 d16 hb17
  have H14 := L17
  clear L15 L17
  generalize ((w13.alloc (.cells #[.int .i64 1, .int .i64 1, .slice A13 1 c13] 27)).alloc (.cells #[.int .u8 5, .int .u8 6] 5)) = w14 at *
  refine (solve1R H14.out (r := 2) (c := 1) (d := 1) (.tail _ (.tail _ (.tail _ (.head _)))) (.head _) rfl rfl ⟨rfl, rfl, rfl, rfl⟩ (by decide) ((flat_ent rfl).symm) ((flat_ent rfl).symm) (by decide +kernel)).mono ?_
  rintro e w15 ⟨rfl, h⟩
  have H15 := Lib.hid h
  clear h
  have L18 := Lib.hid (show MS _ _ _ ((w15.heap.size, #[.int .i64 0, .int .i64 0, .slice none 0 0]) :: _) (w15.alloc (.cells #[.int .i64 0, .int .i64 0, .slice none 0 0] 27)) from by have h := H15.out.put #[.int .i64 0, .int .i64 0, .slice none 0 0]; (try simp only [World.size_alloc] at h); exact h)
  obtain ⟨a19, b19, d19⟩ := L18.out.cells (.tail _ (.tail _ (.tail _ (.tail _ (.tail _ (.tail _ (.head _)))))))
  have hb20 := Mx_build2 (w15.alloc (.cells #[.int .i64 0, .int .i64 0, .slice none 0 0] 27)) 11 4
  have L20 := Lib.hid (show MS _ _ (⟨some ⟨w15.heap.size + 1, 0, none⟩, [11, 4], 2⟩ :: _) _ ((w15.alloc (.cells #[.int .i64 0, .int .i64 0, .slice none 0 0] 27)).alloc (.cells #[.int .u8 11, .int .u8 4] 5)) from by have h := L18.out.lit #[.int .u8 11, .int .u8 4] [11, 4] (by simp [maxLen]) rfl 2 (by decide); (try simp only [World.size_alloc] at h); exact h)
  go_wp2_with fail
  clear a19 b19 d19 hb20
  have H16 := L20
  clear L18 L20
  generalize ((w15.alloc (.cells #[.int .i64 0, .int .i64 0, .slice none 0 0] 27)).alloc (.cells #[.int .u8 11, .int .u8 4] 5)) = w16 at *
  refine (sameBytesR H16.out (.tail _ (.tail _ (.tail _ (.tail _ (.tail _ (.tail _ (.tail _ (.tail _ (.tail _ (.tail _ (.tail _ (.head _)))))))))))) rfl (.head _) rfl (v := true) (by decide)).mono ?_
  rintro e w' ⟨rfl, rfl⟩
  obtain ⟨a21, b21, d21⟩ := H16.out.cells (.tail _ (.tail _ (.tail _ (.tail _ (.head _)))))
  have hb22 := Mx_build4 w16 1 1 0 1
  have L22 := Lib.hid (show MS _ _ (⟨some ⟨w16.heap.size, 0, none⟩, [1, 1, 0, 1], 4⟩ :: _) _ (w16.alloc (.cells #[.int .u8 1, .int .u8 1, .int .u8 0, .int .u8 1] 5)) from by have h := H16.out.lit #[.int .u8 1, .int .u8 1, .int .u8 0, .int .u8 1] [1, 1, 0, 1] (by simp [maxLen]) rfl 4 (by decide); (try simp only [World.size_alloc] at h); exact h)
  go_wp2_with fail
  clear a21 b21 d21 hb22
  have H17 := L22
  clear L22
  generalize (w16.alloc (.cells #[.int .u8 1, .int .u8 1, .int .u8 0, .int .u8 1] 5)) = w17 at *
  refine (sameBytesR H17.out (.tail _ (.tail _ (.tail _ (.tail _ (.tail _ (.tail _ (.tail _ (.tail _ (.head _))))))))) rfl (.head _) rfl (v := true) (by decide)).mono ?_
  rintro e w' ⟨rfl, rfl⟩
  have hb23 := Mx_build2 w17 1 2
  have L23 := Lib.hid (show MS _ _ (⟨some ⟨w17.heap.size, 0, none⟩, [1, 2], 2⟩ :: _) _ (w17.alloc (.cells #[.int .u8 1, .int .u8 2] 5)) from by have h := H17.out.lit #[.int .u8 1, .int .u8 2] [1, 2] (by simp [maxLen]) rfl 2 (by decide); (try simp only [World.size_alloc] at h); exact h)
  go_wp2_with fail
  clear hb23
  have H18 := L23
  clear L23
  generalize (w17.alloc (.cells #[.int .u8 1, .int .u8 2] 5)) = w18 at *
  refine (powR H18.out (c := 3) (.head _) rfl rfl (by decide) 2 6 ⟨rfl, rfl⟩ (l := [1, 1, 1, 1, 2, 4]) (by decide +kernel)).mono ?_
  rintro e w19 ⟨A19, c19, rfl, h⟩
  have H19 := Lib.hid h
  clear h
  have hfd := fun W => Mx_field2 W 2 3 A19 6 c19
  have hb24 := Mx_build6 w19 1 1 1 1 2 4
  have L24 := Lib.hid (show MS _ _ (⟨some ⟨w19.heap.size, 0, none⟩, [1, 1, 1, 1, 2, 4], 6⟩ :: _) _ (w19.alloc (.cells #[.int .u8 1, .int .u8 1, .int .u8 1, .int .u8 1, .int .u8 2, .int .u8 4] 5)) from by have h := H19.out.lit #[.int .u8 1, .int .u8 1, .int .u8 1, .int .u8 1, .int .u8 2, .int .u8 4] [1, 1, 1, 1, 2, 4] (by simp [maxLen]) rfl 6 (by decide); (try simp only [World.size_alloc] at h); exact h)
  go_wp2_with fail
  clear hb24
  have H20 := L24
  clear L24
  generalize (w19.alloc (.cells #[.int .u8 1, .int .u8 1, .int .u8 1, .int .u8 1, .int .u8 2, .int .u8 4] 5)) = w20 at *
  refine (sameBytesR H20.out (.tail _ (.head _)) rfl (.head _) rfl (v := true) (by decide)).mono ?_
  rintro e w' ⟨rfl, rfl⟩
  clear hfd
  obtain ⟨a25, b25, d25⟩ := H20.out.cells (.tail _ (.tail _ (.tail _ (.head _))))
  have hb26 := Mx_build4 w20 1 2 2 3
  have L26 := Lib.hid (show MS _ _ (⟨some ⟨w20.heap.size, 0, none⟩, [1, 2, 2, 3], 4⟩ :: _) _ (w20.alloc (.cells #[.int .u8 1, .int .u8 2, .int .u8 2, .int .u8 3] 5)) from by have h := H20.out.lit #[.int .u8 1, .int .u8 2, .int .u8 2, .int .u8 3] [1, 2, 2, 3] (by simp [maxLen]) rfl 4 (by decide); (try simp only [World.size_alloc] at h); exact h)
  go_wp2_with fail
  clear a25 b25 d25 hb26
  have H21 := L26
  clear L26
  generalize (w20.alloc (.cells #[.int .u8 1, .int .u8 2, .int .u8 2, .int .u8 3] 5)) = w21 at *
  refine (sameBytesR H21.out (.tail _ (.tail _ (.tail _ (.tail _ (.tail _ (.tail _ (.tail _ (.tail _ (.tail _ (.tail _ (.head _))))))))))) rfl (.head _) rfl (v := true) (by decide)).mono ?_
  rintro e w' ⟨rfl, rfl⟩
  obtain ⟨a27, b27, d27⟩ := H21.out.cells (.tail _ (.head _))
  have hb28 := Mx_build1 w21 5
  have L28 := Lib.hid (show MS _ _ (⟨some ⟨w21.heap.size, 0, none⟩, [5], 1⟩ :: _) _ (w21.alloc (.cells #[.int .u8 5] 5)) from by have h := H21.out.lit #[.int .u8 5] [5] (by simp [maxLen]) rfl 1 (by decide); (try simp only [World.size_alloc] at h); exact h)
  go_wp2_with fail
  clear a27 b27 d27 hb28
  have H22 := L28
  clear L28
  generalize (w21.alloc (.cells #[.int .u8 5] 5)) = w22 at *
  refine (sameBytesR H22.out (.tail _ (.tail _ (.tail _ (.tail _ (.tail _ (.tail _ (.tail _ (.tail _ (.head _))))))))) rfl (.head _) rfl (v := true) (by decide)).mono ?_
  rintro e w' ⟨rfl, rfl⟩
  go_wp2_with fail
  go_ret
  exact ⟨rfl, H22.out.below⟩
end Go.Proofs.Ythdapoipfnnaeaa.MxW
/- What the document's functions and Pick leave of a law's state. -/
namespace Go.Proofs.Ythdapoipfnnaeaa.MxW
open Go.RowKit Go.Shelf Mem Gf FdW Mx Rng
open PlW (In)
set_option linter.unusedVariables false
set_option linter.unusedSectionVars false
attribute [local go_sem] Oper.semAt_some wide_fn

set_option maxRecDepth 100000 in
set_option maxHeartbeats 4000000 in
theorem pick_bad (w : World) (R C : Int) (A : Option Addr) (nn cap : Nat) (K : Option Addr) (n ck : Nat) (hrt : rightB R C nn = false) :
    Calls Try.prog 28 #[.agg #[.int .i64 R, .int .i64 C, .slice A nn cap], .slice K n ck] w (ErrM w 50) := by
  have HR := Lib.hid hrt
  have H0 := Lib.hid (((BS.start w).put #[.int .i64 R, .int .i64 C, .slice A nn cap] 27 (by decide)).put #[.int .i64 0, .int .i64 0, .slice none 0 0] 27 (by decide))
  go_enter Try.func28, Try.ntmps28
  obtain ⟨⟨a0, a1, a2⟩, _⟩ := H0.out.cells (.tail _ (.head _))
  go_wp2_with fail
  clear a0 a1 a2
  generalize (w.alloc (.cells #[.int .i64 R, .int .i64 C, .slice A nn cap] 27)).alloc (.cells #[.int .i64 0, .int .i64 0, .slice none 0 0] 27) = w1 at *
  rw [World.size_alloc] at H0
  refine (right_any w1 _ _ A nn cap).mono ?_
  rintro e w2 ⟨rfl, hb⟩
  rw [HR.out]
  have H1 := Lib.hid (H0.out.keep hb)
  clear hb H0
  obtain ⟨⟨d0, d1, d2⟩, f0, f1, f2⟩ := H1.out.cells (.head _)
  have hfin := H1.out.end_ (.head _) (.int .i64 0) (.int .i64 0) (.slice none 0 0)
  go_wp2_with fail
  obtain ⟨h1, h2, e0, e1, e2⟩ := hfin
  exact bodyPost_ret (v := .tuple #[.agg #[.int .i64 0, .int .i64 0, .slice none 0 0], .int .i64 50]) (by simp [results, Try.results28, go_sem, e0, e1, e2]) rfl ⟨rfl, h1⟩
set_option maxRecDepth 100000 in
set_option maxHeartbeats 4000000 in
theorem rpick_bad (w : World) (R C : Int) (A : Option Addr) (nn cap : Nat) (K : Option Addr) (n ck : Nat) (hrt : rightB R C nn = false) :
    Calls Try.prog 29 #[.agg #[.int .i64 R, .int .i64 C, .slice A nn cap], .slice K n ck] w (ErrM w 50) := by
  have HR := Lib.hid hrt
  have H0 := Lib.hid (((BS.start w).put #[.int .i64 R, .int .i64 C, .slice A nn cap] 38 (by decide)).put #[.int .i64 0, .int .i64 0, .slice none 0 0] 38 (by decide))
  go_enter Try.func29, Try.ntmps29
  obtain ⟨⟨a0, a1, a2⟩, _⟩ := H0.out.cells (.tail _ (.head _))
  go_wp2_with fail
  clear a0 a1 a2
  generalize (w.alloc (.cells #[.int .i64 R, .int .i64 C, .slice A nn cap] 38)).alloc (.cells #[.int .i64 0, .int .i64 0, .slice none 0 0] 38) = w1 at *
  rw [World.size_alloc] at H0
  refine (rright_any w1 _ _ A nn cap).mono ?_
  rintro e w2 ⟨rfl, hb⟩
  rw [HR.out]
  have H1 := Lib.hid (H0.out.keep hb)
  clear hb H0
  obtain ⟨⟨d0, d1, d2⟩, f0, f1, f2⟩ := H1.out.cells (.head _)
  have hfin := H1.out.end_ (.head _) (.int .i64 0) (.int .i64 0) (.slice none 0 0)
  go_wp2_with fail
  obtain ⟨h1, h2, e0, e1, e2⟩ := hfin
  exact bodyPost_ret (v := .tuple #[.agg #[.int .i64 0, .int .i64 0, .slice none 0 0], .int .i64 50]) (by simp [results, Try.results29, go_sem, e0, e1, e2]) rfl ⟨rfl, h1⟩
section
variable {w0 w w' : World} {p : Option Nat} {R : List Rw} {X : List (Nat × Array Value)}
variable (h : MS w0 p R X w)
include h
variable {A B K : Option Addr} {a b : List UInt8} {ks : List Int} {ca cb ck n m r c d : Nat} {ma mb : M} {R1 C1 R2 C2 : Int}
theorem plainR : Calls Try.prog 20 #[.agg #[.int .i64 R1, .int .i64 C1, .slice A n ca]] w (SayM w0 p R X (.agg #[.int .i64 R1, .int .i64 C1, .slice A n ca])) :=
  (plain_any w R1 C1 A n ca).mono fun e w' ⟨he, hb⟩ => ⟨he, h.keep hb⟩
theorem lsameR (ha : ⟨A, a, ca⟩ ∈ R) (hn : a.length = n) (hb : ⟨B, b, cb⟩ ∈ R) (hm : b.length = m) {v : Bool} (hv : sameB R1 C1 R2 C2 a b = v) :
    Calls Try.prog 23 #[.agg #[.int .i64 R1, .int .i64 C1, .slice A n ca], .agg #[.int .i64 R2, .int .i64 C2, .slice B m cb]] w (SayM w0 p R X (.bool v)) := by
  subst hv
  exact (lsame_any w R1 C1 R2 C2 A B a b n ca m cb hn hm (h.row _ ha).1 (h.row _ hb).1).mono fun e w' ⟨he, hb⟩ => ⟨he, h.keep hb⟩
theorem newT {e : Ending} {m : M} {Ro Co : Int} {no : Nat} {l : List UInt8} (ho : Ro = r ∧ Co = c ∧ no = r * c) (hl : flat r c m = l) (k : NewT w r c m e w') : MatR w0 p R X Ro Co no l e w' := by
  obtain ⟨rfl, rfl, rfl⟩ := ho
  subst hl
  obtain ⟨A', cap, he, hle, hnw, hb⟩ := k
  exact ⟨A', cap, he, (h.keep hb).new hnw h.lt (by rw [flat_len]; exact hle)⟩
theorem pickR (hKs : Cells w0 w0.heap.size K (ks.map i64v)) (ha : ⟨A, a, ca⟩ ∈ R) (hk : ks.length = n) (hn : m = r * c) (hR : R1 = r ∧ C1 = c) (hd : r ≤ 100 ∧ c ≤ 100 ∧ n ≤ 100) (hA : a = flat r c ma) (hin : allIn r ks = true) (Ro Co : Int) (no : Nat) (ho : Ro = n ∧ Co = c ∧ no = n * c) {l : List UInt8} (hl : flat n c (pickM ma ks) = l) :
    Calls Try.prog 28 #[.agg #[.int .i64 R1, .int .i64 C1, .slice A m ca], .slice K n ck] w (MatR w0 p R X Ro Co no l) := by
  obtain ⟨rfl, rfl⟩ := hR
  subst hA
  have k1 := (h.row _ ha).2.2
  dsimp only at k1
  rw [flat_len] at k1
  exact (pick_any w r c A m ca ma K ks n ck hk hn hd (by omega) (h.row _ ha).1 ((hKs.below h.below).up h.below.size)).mono fun e w' k => newT h ho hl (k.1 hin)
theorem pick1R (hKs : Cells w0 w0.heap.size K (ks.map i64v)) (ha : ⟨A, a, ca⟩ ∈ R) (hk : ks.length = n) (hn : m = r * c) (hR : R1 = r ∧ C1 = c) (hd : r ≤ 100 ∧ c ≤ 100 ∧ n ≤ 100) (hA : a = flat r c ma) (hin : allIn r ks = false) :
    Calls Try.prog 28 #[.agg #[.int .i64 R1, .int .i64 C1, .slice A m ca], .slice K n ck] w (SayM w0 p R X (.tuple #[.agg #[.int .i64 0, .int .i64 0, .slice none 0 0], .int .i64 2])) := by
  obtain ⟨rfl, rfl⟩ := hR
  subst hA
  have k1 := (h.row _ ha).2.2
  dsimp only at k1
  rw [flat_len] at k1
  exact (pick_any w r c A m ca ma K ks n ck hk hn hd (by omega) (h.row _ ha).1 ((hKs.below h.below).up h.below.size)).mono fun e w' k => ⟨(k.2 hin).1, h.keep (k.2 hin).2⟩
theorem pick0R (hv : rightB R1 C1 m = false) : Calls Try.prog 28 #[.agg #[.int .i64 R1, .int .i64 C1, .slice A m ca], .slice K n ck] w (SayM w0 p R X (.tuple #[.agg #[.int .i64 0, .int .i64 0, .slice none 0 0], .int .i64 50])) :=
  (pick_bad w R1 C1 A m ca K n ck hv).mono fun e w' ⟨he, hb⟩ => ⟨he, h.keep hb⟩
theorem rpickR (hKs : Cells w0 w0.heap.size K (ks.map i64v)) (h64 : ∀ v ∈ ks, -9223372036854775808 ≤ v ∧ v ≤ 9223372036854775807) (ha : ⟨A, a, ca⟩ ∈ R) (hk : ks.length = n) (hn : m = r * c) (hR : R1 = r ∧ C1 = c) (hd : r ≤ 100 ∧ c ≤ 100 ∧ n ≤ 100) (hA : a = flat r c ma) (hin : allIn r ks = true) (Ro Co : Int) (no : Nat) (ho : Ro = n ∧ Co = c ∧ no = n * c) {l : List UInt8} (hl : flat n c (pickM ma ks) = l) :
    Calls Try.prog 29 #[.agg #[.int .i64 R1, .int .i64 C1, .slice A m ca], .slice K n ck] w (MatR w0 p R X Ro Co no l) := by
  obtain ⟨rfl, rfl⟩ := hR
  subst hA
  have k1 := (h.row _ ha).2.2
  dsimp only at k1
  rw [flat_len] at k1
  exact (rpick_any w r c A m ca ma K ks n ck hk hn hd (by omega) (h.row _ ha).1 ((hKs.below h.below).up h.below.size) h64).mono fun e w' k => newT h ho hl (k.1 hin)
theorem rpick1R (hKs : Cells w0 w0.heap.size K (ks.map i64v)) (h64 : ∀ v ∈ ks, -9223372036854775808 ≤ v ∧ v ≤ 9223372036854775807) (ha : ⟨A, a, ca⟩ ∈ R) (hk : ks.length = n) (hn : m = r * c) (hR : R1 = r ∧ C1 = c) (hd : r ≤ 100 ∧ c ≤ 100 ∧ n ≤ 100) (hA : a = flat r c ma) (hin : allIn r ks = false) :
    Calls Try.prog 29 #[.agg #[.int .i64 R1, .int .i64 C1, .slice A m ca], .slice K n ck] w (SayM w0 p R X (.tuple #[.agg #[.int .i64 0, .int .i64 0, .slice none 0 0], .int .i64 2])) := by
  obtain ⟨rfl, rfl⟩ := hR
  subst hA
  have k1 := (h.row _ ha).2.2
  dsimp only at k1
  rw [flat_len] at k1
  exact (rpick_any w r c A m ca ma K ks n ck hk hn hd (by omega) (h.row _ ha).1 ((hKs.below h.below).up h.below.size) h64).mono fun e w' k => ⟨(k.2 hin).1, h.keep (k.2 hin).2⟩
theorem rpick0R (hv : rightB R1 C1 m = false) : Calls Try.prog 29 #[.agg #[.int .i64 R1, .int .i64 C1, .slice A m ca], .slice K n ck] w (SayM w0 p R X (.tuple #[.agg #[.int .i64 0, .int .i64 0, .slice none 0 0], .int .i64 50])) :=
  (rpick_bad w R1 C1 A m ca K n ck hv).mono fun e w' ⟨he, hb⟩ => ⟨he, h.keep hb⟩
theorem symXR (hn9 : -9223372036854775808 ≤ R1 ∧ R1 ≤ 9223372036854775807) (hx : R1 < 0 ∨ 65536 < R1 ∨ (0 ≤ R1 ∧ R1 ≤ 65536 ∧ (n : Int) ≠ R1 * (R1 + 1) / 2)) : Calls Try.prog 30 #[.int .i64 R1, .slice A n ca] w (SayM w0 p R X (.tuple #[.agg #[.int .i64 0, .int .i64 0, .slice none 0 0], .int .i64 50])) :=
  (sym_bad w R1 A n ca hn9 hx).mono fun e w' ⟨he, hb⟩ => ⟨he, h.keep hb⟩
theorem rsymXR (hn9 : -9223372036854775808 ≤ R1 ∧ R1 ≤ 9223372036854775807) (hx : R1 < 0 ∨ 65536 < R1 ∨ (0 ≤ R1 ∧ R1 ≤ 65536 ∧ (n : Int) ≠ R1 * (R1 + 1) / 2)) : Calls Try.prog 31 #[.int .i64 R1, .slice A n ca] w (SayM w0 p R X (.tuple #[.agg #[.int .i64 0, .int .i64 0, .slice none 0 0], .int .i64 50])) :=
  (rsym_bad w R1 A n ca hn9 hx).mono fun e w' ⟨he, hb⟩ => ⟨he, h.keep hb⟩
theorem rsymR (ha : ⟨A, b, ca⟩ ∈ R) (hn : b.length = n) (hR : R1 = r) (hd : r ≤ 100) (h2 : 2 * n = r * (r + 1)) (no : Nat) (ho : no = r * r) {l : List UInt8} (hl : flat r r (symM r b) = l) :
    Calls Try.prog 31 #[.int .i64 R1, .slice A n ca] w (MatR w0 p R X R1 R1 no l) := by
  subst hR
  exact (rsym_ok w r hd A b n ca hn h2 (h.row _ ha).1).mono fun e w' k => newT h ⟨rfl, rfl, ho⟩ hl k
theorem newO {e : Ending} {m : M} {Ro Co : Int} {no : Nat} {l : List UInt8} (ho : Ro = r ∧ Co = c ∧ no = r * c) (hl : flat r c m = l) (k : NewM w r c m e w') : MatO w0 p R X Ro Co no l e w' := by
  obtain ⟨rfl, rfl, rfl⟩ := ho
  subst hl
  obtain ⟨A', cap, he, hle, hnw, hb⟩ := k
  exact ⟨A', cap, he, (h.keep hb).new hnw h.lt (by rw [flat_len]; exact hle)⟩
theorem one0R (hR : R1 < 0 ∨ 4096 < R1) : Calls Try.prog 27 #[.int .i64 R1] w (MatO w0 p R X 0 0 0 []) :=
  (one_out w R1 hR).mono fun e w' k => newO h ⟨rfl, rfl, rfl⟩ rfl k
theorem roneR (hR : max 0 R1 = (r : Int)) (hd : R1 ≤ 100) (Ro : Int) (no : Nat) (ho : Ro = r ∧ no = r * r) {l : List UInt8} (hl : flat r r idm = l) : Calls Try.prog 32 #[.int .i64 R1] w (MatO w0 p R X Ro Ro no l) :=
  (rone_any w R1 r hR hd).mono fun e w' k => newO h ⟨ho.1, ho.1, ho.2⟩ hl k
theorem rpowR (ha : ⟨A, a, ca⟩ ∈ R) (hn : a.length = n) (hd : n ≤ 1000) (hc : C1 ≤ 1000) (hcc : max 0 C1 = (c : Int)) (Ro Co : Int) (no : Nat) (ho : Ro = n ∧ Co = c ∧ no = n * c) {l : List UInt8} (hl : flat n c (powM a) = l) :
    Calls Try.prog 33 #[.slice A n ca, .int .i64 C1] w (MatO w0 p R X Ro Co no l) :=
  (rpow_any w A a n ca hn C1 c (h.row _ ha).1 hd hc hcc).mono fun e w' k => newO h ho hl k
end
theorem Mx_field0 (W : World) (a b : Int) (A : Option Addr) (n c : Nat) : (Instr.field 27 (.agg #[.int .i64 a, .int .i64 b, .slice A n c]) 0).run Try.prog W = .ok (.int .i64 a) W := by kernel_rfl
theorem pow0R {w0 w : World} {q : Nat} {R : List Rw} {X : List (Nat × Array Value)} (h : MS w0 (some q) R X w) {A : Option Addr} {a : List UInt8} {ca n : Nat} {C1 : Int} (ha : ⟨A, a, ca⟩ ∈ R) (hn : a.length = n) (hd : n ≤ 1000) (hc : C1 < 0) :
    Calls Try.prog 13 #[fptr (some q), .slice A n ca, .int .i64 C1] w (MatO w0 (some q) R X n 0 (n * 0) (flat n 0 (powM a))) :=
  (pow_ok3 w q (h.fld q rfl).2 A a n ca hn C1 (h.in_ ha) hd hc).mono fun e w' ⟨A', cap, he, hle, hnw, hF, hf⟩ => ⟨A', cap, he, (h.fr hF hf).new hnw h.lt (by rw [flat_len]; exact hle)⟩
end Go.Proofs.Ythdapoipfnnaeaa.MxW
/- The law MatrixMakes: its walk. -/
namespace Go.Proofs.Ythdapoipfnnaeaa.MxW
open Go.RowKit Go.Shelf Mem Gf FdW Mx Rng
open PlW (In)
set_option linter.unusedVariables false
set_option linter.unusedSectionVars false
attribute [local go_sem] Oper.semAt_some wide_fn
set_option maxRecDepth 100000 in
set_option maxHeartbeats 4000000 in
theorem makes_neg (w : World)  (Rm Cm : Int) (M : Option Addr) (lm : List UInt8) (nm cm : Nat) (hlm : lm.length = nm) (hM : Bytes w w.heap.size M lm) (hcm : lm.length ≤ cm) (K : Option Addr) (ks : List Int) (nk ck : Nat) (hlk : ks.length = nk) (hK : Cells w w.heap.size K (ks.map i64v)) (h64 : ∀ v ∈ ks, -9223372036854775808 ≤ v ∧ v ≤ 9223372036854775807) (X : Option Addr) (lx : List UInt8) (nx cx : Nat) (hlx : lx.length = nx) (hX : Bytes w w.heap.size X lx) (hcx : lx.length ≤ cx) (n : Int) (hcap : cm ≤ maxLen) (hs : smallB 12 Rm Cm nm = true) (h1 : ¬ (20 : Int) < (nk : Int)) (h2 : ¬ (20 : Int) < (nx : Int)) (hn : -9223372036854775808 ≤ n ∧ n < 0) :
    Calls Try.prog 6 #[.agg #[.int .i64 Rm, .int .i64 Cm, .slice M nm cm], .slice K nk ck, .slice X nx cx, .int .i64 n] w fun e w' => e = .returned (.bool true) ∧ Below w.heap.size w w' := by
  have H0 := Lib.hid (((MS.start w).nilR.arg hM hcm).arg hX hcx)
  have HLNm := Lib.hid hlm
  have HLNx := Lib.hid hlx
  have HKS := Lib.hid (And.intro hK (And.intro h64 hlk))
  have HSm := Lib.hid hs
  have HD := Lib.hid (show nk ≤ 20 ∧ nx ≤ 20 ∧ nm ≤ 153 ∧ cm ≤ maxLen from by have h := of_decide_eq_true hs; omega)
  have hn12 : ¬ (12 : Int) < n := by omega
  have hn65 : ¬ (65536 : Int) < n := by omega
  have HNN := Lib.hid hn
  clear hM hcm hlm hX hcx hlx hK h64 hlk hs hcap hn
  go_enter Try.func6, Try.ntmps6
  have L1 := Lib.hid (show MS _ _ _ ((w.heap.size, #[.int .i64 Rm, .int .i64 Cm, .slice M nm cm]) :: _) (w.alloc (.cells #[.int .i64 Rm, .int .i64 Cm, .slice M nm cm] 27)) from by have h := H0.out.put #[.int .i64 Rm, .int .i64 Cm, .slice M nm cm]; (try simp only [World.size_alloc] at h); exact h)
  obtain ⟨a2, b2, d2⟩ := L1.out.cells (.head _)
  go_wp2_with fail
  clear a2 b2 d2
  have H1 := L1
  clear L1
  generalize (w.alloc (.cells #[.int .i64 Rm, .int .i64 Cm, .slice M nm cm] 27)) = w1 at *
  refine (smallR H1.out 12 (by decide) (v := true) HSm.out).mono ?_
  rintro e w2 ⟨rfl, h⟩
  have H2 := Lib.hid h
  clear h
  go_wp2_with fail
  refine (newR H2.out).mono ?_
  rintro e w3 ⟨rfl, h⟩
  have H3 := Lib.hid h
  clear h
  obtain ⟨a3, b3, d3⟩ := H3.out.cells (.head _)
  go_wp2_with fail
  clear a3 b3 d3
  cases hr : rightB Rm Cm nm with
  | false =>
    have HR := Lib.hid hr
    clear hr
    refine (pick0R H3.out HR.out).mono ?_
    rintro e w4 ⟨rfl, h⟩
    have H4 := Lib.hid h
    clear h
    have L4 := Lib.hid (show MS _ _ _ ((w4.heap.size, #[.int .i64 0, .int .i64 0, .slice none 0 0]) :: _) (w4.alloc (.cells #[.int .i64 0, .int .i64 0, .slice none 0 0] 27)) from by have h := H4.out.put #[.int .i64 0, .int .i64 0, .slice none 0 0]; (try simp only [World.size_alloc] at h); exact h)
    obtain ⟨a5, b5, d5⟩ := L4.out.cells (.tail _ (.head _))
    go_wp2_with fail
    clear a5 b5 d5
    have H5 := L4
    clear L4
    generalize (w4.alloc (.cells #[.int .i64 0, .int .i64 0, .slice none 0 0] 27)) = w5 at *
    refine (plainR H5.out ).mono ?_
    rintro e w6 ⟨rfl, h⟩
    have H6 := Lib.hid h
    clear h
    go_wp2_with fail
    refine (rpick0R H6.out HR.out).mono ?_
    rintro e w7 ⟨rfl, h⟩
    have H7 := Lib.hid h
    clear h
    have L6 := Lib.hid (show MS _ _ _ ((w7.heap.size, #[.int .i64 0, .int .i64 0, .slice none 0 0]) :: _) (w7.alloc (.cells #[.int .i64 0, .int .i64 0, .slice none 0 0] 38)) from by have h := H7.out.putT #[.int .i64 0, .int .i64 0, .slice none 0 0] 38; (try simp only [World.size_alloc] at h); exact h)
    obtain ⟨a7, b7, d7⟩ := L6.out.cells (.tail _ (.tail _ (.head _)))
    go_wp2_with fail
    clear a7 b7 d7
    have H8 := L6
    clear L6
    generalize (w7.alloc (.cells #[.int .i64 0, .int .i64 0, .slice none 0 0] 38)) = w8 at *
    have HX := Lib.hid (show n < 0 ∨ 65536 < n ∨ (0 ≤ n ∧ n ≤ 65536 ∧ (nm : Int) ≠ n * (n + 1) / 2) from .inl HNN.out.2)
    have HB9 := Lib.hid (show -9223372036854775808 ≤ n ∧ n ≤ 9223372036854775807 from by have := HNN.out; omega)
    refine (symXR H8.out HB9.out HX.out).mono ?_
    rintro e w9 ⟨rfl, h⟩
    have H9 := Lib.hid h
    clear h
    have L8 := Lib.hid (show MS _ _ _ ((w9.heap.size, #[.int .i64 0, .int .i64 0, .slice none 0 0]) :: _) (w9.alloc (.cells #[.int .i64 0, .int .i64 0, .slice none 0 0] 27)) from by have h := H9.out.put #[.int .i64 0, .int .i64 0, .slice none 0 0]; (try simp only [World.size_alloc] at h); exact h)
    obtain ⟨a9, b9, d9⟩ := L8.out.cells (.tail _ (.tail _ (.tail _ (.head _))))
    go_wp2_with fail
    clear a9 b9 d9
    have H10 := L8
    clear L8
    generalize (w9.alloc (.cells #[.int .i64 0, .int .i64 0, .slice none 0 0] 27)) = w10 at *
    refine (rsymXR H10.out HB9.out HX.out).mono ?_
    rintro e w11 ⟨rfl, h⟩
    have H11 := Lib.hid h
    clear h
    have L10 := Lib.hid (show MS _ _ _ ((w11.heap.size, #[.int .i64 0, .int .i64 0, .slice none 0 0]) :: _) (w11.alloc (.cells #[.int .i64 0, .int .i64 0, .slice none 0 0] 38)) from by have h := H11.out.putT #[.int .i64 0, .int .i64 0, .slice none 0 0] 38; (try simp only [World.size_alloc] at h); exact h)
    obtain ⟨a11, b11, d11⟩ := L10.out.cells (.tail _ (.tail _ (.tail _ (.head _))))
    obtain ⟨a12, b12, d12⟩ := L10.out.cells (.tail _ (.tail _ (.head _)))
    go_wp2_with fail
    clear a11 b11 d11 a12 b12 d12
    have H12 := L10
    clear L10
    generalize (w11.alloc (.cells #[.int .i64 0, .int .i64 0, .slice none 0 0] 38)) = w12 at *
    refine (lsameR H12.out (.tail _ (.tail _ (.head _))) rfl (.tail _ (.tail _ (.head _))) rfl (v := true) (sameB_self _ _ _)).mono ?_
    rintro e w13 ⟨rfl, h⟩
    have H13 := Lib.hid h
    clear h
    obtain ⟨a13, b13, d13⟩ := H13.out.cells (.tail _ (.head _))
    obtain ⟨a14, b14, d14⟩ := H13.out.cells (.head _)
    go_wp2_with fail
    clear a13 b13 d13 a14 b14 d14
    refine (lsameR H13.out (.tail _ (.tail _ (.head _))) rfl (.tail _ (.tail _ (.head _))) rfl (v := true) (sameB_self _ _ _)).mono ?_
    rintro e w14 ⟨rfl, h⟩
    have H14 := Lib.hid h
    clear h
    go_wp2_with fail
    refine (one0R H14.out (.inl (by have := HNN.out; omega))).mono ?_
    rintro e w15 ⟨A15, c15, rfl, h⟩
    have H15 := Lib.hid h
    clear h
    go_wp2_with fail
    refine (roneR H15.out (r := 0) (by have := HNN.out; omega) (by have := HNN.out; omega) 0 0 ⟨rfl, rfl⟩ (l := []) rfl).mono ?_
    rintro e w16 ⟨A16, c16, rfl, h⟩
    have H16 := Lib.hid h
    clear h
    go_wp2_with fail
    refine (lsameR H16.out (.tail _ (.head _)) rfl (.head _) rfl (v := true) (sameB_self _ _ _)).mono ?_
    rintro e w17 ⟨rfl, h⟩
    have H17 := Lib.hid h
    clear h
    go_wp2_with fail
    refine (pow0R H17.out (.tail _ (.tail _ (.head _))) HLNx.out (by have := HD.out; omega) (by have := HNN.out; omega)).mono ?_
    rintro e w18 ⟨A18, c18, rfl, h⟩
    have H18 := Lib.hid h
    clear h
    go_wp2_with fail
    refine (rpowR H18.out (c := 0) (.tail _ (.tail _ (.tail _ (.head _)))) HLNx.out (by have := HD.out; omega) (by have := HNN.out; omega) (by have := HNN.out; omega) (nx : Int) 0 (nx * 0) ⟨rfl, rfl, rfl⟩ rfl).mono ?_
    rintro e w19 ⟨A19, c19, rfl, h⟩
    have H19 := Lib.hid h
    clear h
    go_wp2_with fail
    refine (lsameR H19.out (.tail _ (.head _)) (flat_len _ _ _) (.head _) (flat_len _ _ _) (v := true) (sameB_self _ _ _)).mono ?_
    rintro e w20 ⟨rfl, h⟩
    have H20 := Lib.hid h
    clear h
    go_wp2_with fail
    refine (works_any _).mono ?_
    rintro e w21 ⟨rfl, hb⟩
    have H21 := Lib.hid (MS.keep H20.out hb)
    clear hb
    go_wp2_with fail
    go_ret
    exact ⟨rfl, H21.out.below⟩
  | true =>
    obtain ⟨r, c, rfl, rfl, hr6, hc6, hnm⟩ := right_nat hr
    have HNM := Lib.hid hnm
    have HDR := Lib.hid (show r ≤ 100 ∧ c ≤ 100 ∧ nk ≤ 100 from by have h := of_decide_eq_true HSm.out; have := HD.out; omega)
    have HMM := Lib.hid (show lm = flat r c (ent lm c) from (flat_ent (HLNm.out.trans hnm)).symm)
    clear hr hr6 hc6 hnm
    cases hin : allIn r ks with
    | false =>
      have HIN := Lib.hid hin
      clear hin
      refine (pick1R H3.out (r := r) (c := c) HKS.out.1 (.tail _ (.head _)) HKS.out.2.2 HNM.out ⟨rfl, rfl⟩ HDR.out HMM.out HIN.out).mono ?_
      rintro e w4 ⟨rfl, h⟩
      have H4 := Lib.hid h
      clear h
      have L4 := Lib.hid (show MS _ _ _ ((w4.heap.size, #[.int .i64 0, .int .i64 0, .slice none 0 0]) :: _) (w4.alloc (.cells #[.int .i64 0, .int .i64 0, .slice none 0 0] 27)) from by have h := H4.out.put #[.int .i64 0, .int .i64 0, .slice none 0 0]; (try simp only [World.size_alloc] at h); exact h)
      obtain ⟨a5, b5, d5⟩ := L4.out.cells (.tail _ (.head _))
      go_wp2_with fail
      clear a5 b5 d5
      have H5 := L4
      clear L4
      generalize (w4.alloc (.cells #[.int .i64 0, .int .i64 0, .slice none 0 0] 27)) = w5 at *
      refine (plainR H5.out ).mono ?_
      rintro e w6 ⟨rfl, h⟩
      have H6 := Lib.hid h
      clear h
      go_wp2_with fail
      refine (rpick1R H6.out (r := r) (c := c) HKS.out.1 HKS.out.2.1 (.tail _ (.head _)) HKS.out.2.2 HNM.out ⟨rfl, rfl⟩ HDR.out HMM.out HIN.out).mono ?_
      rintro e w7 ⟨rfl, h⟩
      have H7 := Lib.hid h
      clear h
      have L6 := Lib.hid (show MS _ _ _ ((w7.heap.size, #[.int .i64 0, .int .i64 0, .slice none 0 0]) :: _) (w7.alloc (.cells #[.int .i64 0, .int .i64 0, .slice none 0 0] 38)) from by have h := H7.out.putT #[.int .i64 0, .int .i64 0, .slice none 0 0] 38; (try simp only [World.size_alloc] at h); exact h)
      obtain ⟨a7, b7, d7⟩ := L6.out.cells (.tail _ (.tail _ (.head _)))
      go_wp2_with fail
      clear a7 b7 d7
      have H8 := L6
      clear L6
      generalize (w7.alloc (.cells #[.int .i64 0, .int .i64 0, .slice none 0 0] 38)) = w8 at *
      have HX := Lib.hid (show n < 0 ∨ 65536 < n ∨ (0 ≤ n ∧ n ≤ 65536 ∧ (nm : Int) ≠ n * (n + 1) / 2) from .inl HNN.out.2)
      have HB9 := Lib.hid (show -9223372036854775808 ≤ n ∧ n ≤ 9223372036854775807 from by have := HNN.out; omega)
      refine (symXR H8.out HB9.out HX.out).mono ?_
      rintro e w9 ⟨rfl, h⟩
      have H9 := Lib.hid h
      clear h
      have L8 := Lib.hid (show MS _ _ _ ((w9.heap.size, #[.int .i64 0, .int .i64 0, .slice none 0 0]) :: _) (w9.alloc (.cells #[.int .i64 0, .int .i64 0, .slice none 0 0] 27)) from by have h := H9.out.put #[.int .i64 0, .int .i64 0, .slice none 0 0]; (try simp only [World.size_alloc] at h); exact h)
      obtain ⟨a9, b9, d9⟩ := L8.out.cells (.tail _ (.tail _ (.tail _ (.head _))))
      go_wp2_with fail
      clear a9 b9 d9
      have H10 := L8
      clear L8
      generalize (w9.alloc (.cells #[.int .i64 0, .int .i64 0, .slice none 0 0] 27)) = w10 at *
      refine (rsymXR H10.out HB9.out HX.out).mono ?_
      rintro e w11 ⟨rfl, h⟩
      have H11 := Lib.hid h
      clear h
      have L10 := Lib.hid (show MS _ _ _ ((w11.heap.size, #[.int .i64 0, .int .i64 0, .slice none 0 0]) :: _) (w11.alloc (.cells #[.int .i64 0, .int .i64 0, .slice none 0 0] 38)) from by have h := H11.out.putT #[.int .i64 0, .int .i64 0, .slice none 0 0] 38; (try simp only [World.size_alloc] at h); exact h)
      obtain ⟨a11, b11, d11⟩ := L10.out.cells (.tail _ (.tail _ (.tail _ (.head _))))
      obtain ⟨a12, b12, d12⟩ := L10.out.cells (.tail _ (.tail _ (.head _)))
      go_wp2_with fail
      clear a11 b11 d11 a12 b12 d12
      have H12 := L10
      clear L10
      generalize (w11.alloc (.cells #[.int .i64 0, .int .i64 0, .slice none 0 0] 38)) = w12 at *
      refine (lsameR H12.out (.tail _ (.tail _ (.head _))) rfl (.tail _ (.tail _ (.head _))) rfl (v := true) (sameB_self _ _ _)).mono ?_
      rintro e w13 ⟨rfl, h⟩
      have H13 := Lib.hid h
      clear h
      obtain ⟨a13, b13, d13⟩ := H13.out.cells (.tail _ (.head _))
      obtain ⟨a14, b14, d14⟩ := H13.out.cells (.head _)
      go_wp2_with fail
      clear a13 b13 d13 a14 b14 d14
      refine (lsameR H13.out (.tail _ (.tail _ (.head _))) rfl (.tail _ (.tail _ (.head _))) rfl (v := true) (sameB_self _ _ _)).mono ?_
      rintro e w14 ⟨rfl, h⟩
      have H14 := Lib.hid h
      clear h
      go_wp2_with fail
      refine (one0R H14.out (.inl (by have := HNN.out; omega))).mono ?_
      rintro e w15 ⟨A15, c15, rfl, h⟩
      have H15 := Lib.hid h
      clear h
      go_wp2_with fail
      refine (roneR H15.out (r := 0) (by have := HNN.out; omega) (by have := HNN.out; omega) 0 0 ⟨rfl, rfl⟩ (l := []) rfl).mono ?_
      rintro e w16 ⟨A16, c16, rfl, h⟩
      have H16 := Lib.hid h
      clear h
      go_wp2_with fail
      refine (lsameR H16.out (.tail _ (.head _)) rfl (.head _) rfl (v := true) (sameB_self _ _ _)).mono ?_
      rintro e w17 ⟨rfl, h⟩
      have H17 := Lib.hid h
      clear h
      go_wp2_with fail
      refine (pow0R H17.out (.tail _ (.tail _ (.head _))) HLNx.out (by have := HD.out; omega) (by have := HNN.out; omega)).mono ?_
      rintro e w18 ⟨A18, c18, rfl, h⟩
      have H18 := Lib.hid h
      clear h
      go_wp2_with fail
      refine (rpowR H18.out (c := 0) (.tail _ (.tail _ (.tail _ (.head _)))) HLNx.out (by have := HD.out; omega) (by have := HNN.out; omega) (by have := HNN.out; omega) (nx : Int) 0 (nx * 0) ⟨rfl, rfl, rfl⟩ rfl).mono ?_
      rintro e w19 ⟨A19, c19, rfl, h⟩
      have H19 := Lib.hid h
      clear h
      go_wp2_with fail
      refine (lsameR H19.out (.tail _ (.head _)) (flat_len _ _ _) (.head _) (flat_len _ _ _) (v := true) (sameB_self _ _ _)).mono ?_
      rintro e w20 ⟨rfl, h⟩
      have H20 := Lib.hid h
      clear h
      go_wp2_with fail
      refine (works_any _).mono ?_
      rintro e w21 ⟨rfl, hb⟩
      have H21 := Lib.hid (MS.keep H20.out hb)
      clear hb
      go_wp2_with fail
      go_ret
      exact ⟨rfl, H21.out.below⟩
    | true =>
      have HIN := Lib.hid hin
      clear hin
      refine (pickR H3.out (r := r) (c := c) HKS.out.1 (.tail _ (.head _)) HKS.out.2.2 HNM.out ⟨rfl, rfl⟩ HDR.out HMM.out HIN.out nk c (nk * c) ⟨rfl, rfl, rfl⟩ rfl).mono ?_
      rintro e w4 ⟨A4, c4, rfl, h⟩
      have H4 := Lib.hid h
      clear h
      have L4 := Lib.hid (show MS _ _ _ ((w4.heap.size, #[.int .i64 (nk : Int), .int .i64 (c : Int), .slice A4 (nk * c) c4]) :: _) (w4.alloc (.cells #[.int .i64 (nk : Int), .int .i64 (c : Int), .slice A4 (nk * c) c4] 27)) from by have h := H4.out.put #[.int .i64 (nk : Int), .int .i64 (c : Int), .slice A4 (nk * c) c4]; (try simp only [World.size_alloc] at h); exact h)
      obtain ⟨a5, b5, d5⟩ := L4.out.cells (.tail _ (.head _))
      go_wp2_with fail
      clear a5 b5 d5
      have H5 := L4
      clear L4
      generalize (w4.alloc (.cells #[.int .i64 (nk : Int), .int .i64 (c : Int), .slice A4 (nk * c) c4] 27)) = w5 at *
      refine (plainR H5.out ).mono ?_
      rintro e w6 ⟨rfl, h⟩
      have H6 := Lib.hid h
      clear h
      go_wp2_with fail
      refine (rpickR H6.out (r := r) (c := c) HKS.out.1 HKS.out.2.1 (.tail _ (.tail _ (.head _))) HKS.out.2.2 HNM.out ⟨rfl, rfl⟩ HDR.out HMM.out HIN.out nk c (nk * c) ⟨rfl, rfl, rfl⟩ rfl).mono ?_
      rintro e w7 ⟨A7, c7, rfl, h⟩
      have H7 := Lib.hid h
      clear h
      have L6 := Lib.hid (show MS _ _ _ ((w7.heap.size, #[.int .i64 (nk : Int), .int .i64 (c : Int), .slice A7 (nk * c) c7]) :: _) (w7.alloc (.cells #[.int .i64 (nk : Int), .int .i64 (c : Int), .slice A7 (nk * c) c7] 38)) from by have h := H7.out.putT #[.int .i64 (nk : Int), .int .i64 (c : Int), .slice A7 (nk * c) c7] 38; (try simp only [World.size_alloc] at h); exact h)
      obtain ⟨a7, b7, d7⟩ := L6.out.cells (.tail _ (.tail _ (.head _)))
      go_wp2_with fail
      clear a7 b7 d7
      have H8 := L6
      clear L6
      generalize (w7.alloc (.cells #[.int .i64 (nk : Int), .int .i64 (c : Int), .slice A7 (nk * c) c7] 38)) = w8 at *
      have HX := Lib.hid (show n < 0 ∨ 65536 < n ∨ (0 ≤ n ∧ n ≤ 65536 ∧ (nm : Int) ≠ n * (n + 1) / 2) from .inl HNN.out.2)
      have HB9 := Lib.hid (show -9223372036854775808 ≤ n ∧ n ≤ 9223372036854775807 from by have := HNN.out; omega)
      refine (symXR H8.out HB9.out HX.out).mono ?_
      rintro e w9 ⟨rfl, h⟩
      have H9 := Lib.hid h
      clear h
      have L8 := Lib.hid (show MS _ _ _ ((w9.heap.size, #[.int .i64 0, .int .i64 0, .slice none 0 0]) :: _) (w9.alloc (.cells #[.int .i64 0, .int .i64 0, .slice none 0 0] 27)) from by have h := H9.out.put #[.int .i64 0, .int .i64 0, .slice none 0 0]; (try simp only [World.size_alloc] at h); exact h)
      obtain ⟨a9, b9, d9⟩ := L8.out.cells (.tail _ (.tail _ (.tail _ (.head _))))
      go_wp2_with fail
      clear a9 b9 d9
      have H10 := L8
      clear L8
      generalize (w9.alloc (.cells #[.int .i64 0, .int .i64 0, .slice none 0 0] 27)) = w10 at *
      refine (rsymXR H10.out HB9.out HX.out).mono ?_
      rintro e w11 ⟨rfl, h⟩
      have H11 := Lib.hid h
      clear h
      have L10 := Lib.hid (show MS _ _ _ ((w11.heap.size, #[.int .i64 0, .int .i64 0, .slice none 0 0]) :: _) (w11.alloc (.cells #[.int .i64 0, .int .i64 0, .slice none 0 0] 38)) from by have h := H11.out.putT #[.int .i64 0, .int .i64 0, .slice none 0 0] 38; (try simp only [World.size_alloc] at h); exact h)
      obtain ⟨a11, b11, d11⟩ := L10.out.cells (.tail _ (.tail _ (.tail _ (.head _))))
      obtain ⟨a12, b12, d12⟩ := L10.out.cells (.tail _ (.tail _ (.head _)))
      go_wp2_with fail
      clear a11 b11 d11 a12 b12 d12
      have H12 := L10
      clear L10
      generalize (w11.alloc (.cells #[.int .i64 0, .int .i64 0, .slice none 0 0] 38)) = w12 at *
      refine (lsameR H12.out (.tail _ (.head _)) (flat_len _ _ _) (.head _) (flat_len _ _ _) (v := true) (sameB_self _ _ _)).mono ?_
      rintro e w13 ⟨rfl, h⟩
      have H13 := Lib.hid h
      clear h
      obtain ⟨a13, b13, d13⟩ := H13.out.cells (.tail _ (.head _))
      obtain ⟨a14, b14, d14⟩ := H13.out.cells (.head _)
      go_wp2_with fail
      clear a13 b13 d13 a14 b14 d14
      refine (lsameR H13.out (.tail _ (.tail _ (.tail _ (.tail _ (.head _))))) rfl (.tail _ (.tail _ (.tail _ (.tail _ (.head _))))) rfl (v := true) (sameB_self _ _ _)).mono ?_
      rintro e w14 ⟨rfl, h⟩
      have H14 := Lib.hid h
      clear h
      go_wp2_with fail
      refine (one0R H14.out (.inl (by have := HNN.out; omega))).mono ?_
      rintro e w15 ⟨A15, c15, rfl, h⟩
      have H15 := Lib.hid h
      clear h
      go_wp2_with fail
      refine (roneR H15.out (r := 0) (by have := HNN.out; omega) (by have := HNN.out; omega) 0 0 ⟨rfl, rfl⟩ (l := []) rfl).mono ?_
      rintro e w16 ⟨A16, c16, rfl, h⟩
      have H16 := Lib.hid h
      clear h
      go_wp2_with fail
      refine (lsameR H16.out (.tail _ (.head _)) rfl (.head _) rfl (v := true) (sameB_self _ _ _)).mono ?_
      rintro e w17 ⟨rfl, h⟩
      have H17 := Lib.hid h
      clear h
      go_wp2_with fail
      refine (pow0R H17.out (.tail _ (.tail _ (.tail _ (.tail _ (.head _))))) HLNx.out (by have := HD.out; omega) (by have := HNN.out; omega)).mono ?_
      rintro e w18 ⟨A18, c18, rfl, h⟩
      have H18 := Lib.hid h
      clear h
      go_wp2_with fail
      refine (rpowR H18.out (c := 0) (.tail _ (.tail _ (.tail _ (.tail _ (.tail _ (.head _)))))) HLNx.out (by have := HD.out; omega) (by have := HNN.out; omega) (by have := HNN.out; omega) (nx : Int) 0 (nx * 0) ⟨rfl, rfl, rfl⟩ rfl).mono ?_
      rintro e w19 ⟨A19, c19, rfl, h⟩
      have H19 := Lib.hid h
      clear h
      go_wp2_with fail
      refine (lsameR H19.out (.tail _ (.head _)) (flat_len _ _ _) (.head _) (flat_len _ _ _) (v := true) (sameB_self _ _ _)).mono ?_
      rintro e w20 ⟨rfl, h⟩
      have H20 := Lib.hid h
      clear h
      go_wp2_with fail
      refine (works_any _).mono ?_
      rintro e w21 ⟨rfl, hb⟩
      have H21 := Lib.hid (MS.keep H20.out hb)
      clear hb
      go_wp2_with fail
      go_ret
      exact ⟨rfl, H21.out.below⟩
end Go.Proofs.Ythdapoipfnnaeaa.MxW
