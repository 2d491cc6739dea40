/- Texts of a claim, one behind another. -/
import Derived.Test.YthdapoipfnnaeaaQLawMatrixSolves4
import Derived.Test.YthdapoipfnnaeaaRng2
import Derived.Test.YthdapoipfnnaeaaOpenMx
/- Matrices as a law holds them: rows of bytes, boxes, perhaps a field; what each call leaves of them. -/
namespace Go.Proofs.Ythdapoipfnnaeaa.MxW
open Go.RowKit Go.Shelf Mem Gf FdW Mx Rng
open PlW (In)
set_option linter.unusedVariables false
set_option linter.unusedSectionVars false

structure Rw where
  A : Option Addr
  l : List UInt8
  c : Nat
/-- Since w0 nothing that was there has turned; these rows are there, these boxes of matrices, this field. -/
structure MS (w0 : World) (p : Option Nat) (R : List Rw) (X : List (Nat × Array Value)) (w : World) : Prop where
  below : Below w0.heap.size w0 w
  fld : ∀ q, p = some q → w0.heap.size ≤ q ∧ Fld w q
  row : ∀ r ∈ R, Bytes w w.heap.size r.A r.l ∧ (∀ q, p = some q → ∀ b o, r.A = some ⟨b, o, none⟩ → 0 < r.l.length → b ≠ q) ∧ r.l.length ≤ r.c
  box : ∀ x ∈ X, Blk w x.1 27 x.2 ∧ ∀ q, p = some q → x.1 ≠ q
def MatR (w0 : World) (p : Option Nat) (R : List Rw) (X : List (Nat × Array Value)) (r c : Int) (n : Nat) (l : List UInt8) (e : Ending) (w' : World) : Prop :=
  ∃ A cap, e = .returned (.tuple #[.agg #[.int .i64 r, .int .i64 c, .slice A n cap], .int .i64 0]) ∧ MS w0 p (⟨A, l, cap⟩ :: R) X w'
def MatO (w0 : World) (p : Option Nat) (R : List Rw) (X : List (Nat × Array Value)) (r c : Int) (n : Nat) (l : List UInt8) (e : Ending) (w' : World) : Prop :=
  ∃ A cap, e = .returned (.agg #[.int .i64 r, .int .i64 c, .slice A n cap]) ∧ MS w0 p (⟨A, l, cap⟩ :: R) X w'
def BytR (w0 : World) (p : Option Nat) (R : List Rw) (X : List (Nat × Array Value)) (n : Nat) (l : List UInt8) (e : Ending) (w' : World) : Prop :=
  ∃ A cap, e = .returned (.tuple #[.slice A n cap, .int .i64 0]) ∧ MS w0 p (⟨A, l, cap⟩ :: R) X w'
def SayM (w0 : World) (p : Option Nat) (R : List Rw) (X : List (Nat × Array Value)) (v : Value) (e : Ending) (w' : World) : Prop := e = .returned v ∧ MS w0 p R X w'
section
variable {w0 w w' : World} {p : Option Nat} {R : List Rw} {X : List (Nat × Array Value)}
theorem MS.start (w : World) : MS w none [] [] w := ⟨Below.refl _ _, fun _ h => (by cases h), fun _ h => (List.not_mem_nil h).elim, fun _ h => (List.not_mem_nil h).elim⟩
theorem MS.keep (h : MS w0 p R X w) (hb : Below w.heap.size w w') : MS w0 p R X w' :=
  ⟨h.below.trans (hb.mono h.below.size), fun q e => ⟨(h.fld q e).1, (h.fld q e).2.keep hb⟩, fun r hr => ⟨((h.row r hr).1.below hb).up hb.size, (h.row r hr).2⟩, fun x hx => ⟨(h.box x hx).1.keep hb, (h.box x hx).2⟩⟩
theorem MS.in_ {q : Nat} (h : MS w0 (some q) R X w) {r : Rw} (hr : r ∈ R) : In w q r.A r.l := ⟨(h.row r hr).1, (h.row r hr).2.1 q rfl⟩
theorem MS.fr {q : Nat} (h : MS w0 (some q) R X w) (hF : Fld w' q) (hf : Fr (fun k => k = q) w w') : MS w0 (some q) R X w' :=
  ⟨h.below.trans (hf.below h.below.size fun k hk => by rw [hk]; exact (h.fld q rfl).1), fun q' e => (by injection e with e; subst e; exact ⟨(h.fld q rfl).1, hF⟩),
   fun r hr => ⟨((h.in_ hr).field hf).1, (h.row r hr).2⟩, fun x hx => ⟨(h.box x hx).1.fr hf ((h.box x hx).2 q rfl), (h.box x hx).2⟩⟩
theorem MS.arg (h : MS w0 none R X w) {A : Option Addr} {l : List UInt8} {c : Nat} (hb : Bytes w0 w0.heap.size A l) (hc : l.length ≤ c) : MS w0 none (⟨A, l, c⟩ :: R) X w :=
  ⟨h.below, h.fld, fun r hr => by
    rcases List.mem_cons.1 hr with rfl | hr
    · exact ⟨(hb.below h.below).up h.below.size, fun _ e => (by cases e), hc⟩
    · exact h.row r hr, h.box⟩
/-- A new row. -/
theorem MS.new (h : MS w0 p R X w) {w1 : World} {A : Option Addr} {l : List UInt8} {c : Nat} (hn : Nw w1.heap.size w A l) (hq : ∀ q, p = some q → q < w1.heap.size) (hc : l.length ≤ c) : MS w0 p (⟨A, l, c⟩ :: R) X w :=
  ⟨h.below, h.fld, fun r hr => by
    rcases List.mem_cons.1 hr with rfl | hr
    · exact ⟨hn.1, fun q e b o e2 hl => (by have := hn.2 b o e2 hl; have := hq q e; omega), hc⟩
    · exact h.row r hr, h.box⟩
theorem MS.lt (h : MS w0 p R X w) : ∀ q, p = some q → q < w.heap.size := fun q e => (h.fld q e).2.lt
theorem MS.nilR (h : MS w0 p R X w) : MS w0 p (⟨none, [], 0⟩ :: R) X w := h.new (w1 := w) ⟨Bytes.nil, fun _ _ e => by cases e⟩ h.lt (Nat.le_refl _)
/-- A box more. -/
theorem MS.put (h : MS w0 p R X w) (cs : Array Value) : MS w0 p R ((w.heap.size, cs) :: X) (w.alloc (.cells cs 27)) := by
  have k := h.keep (nextA (Mem.start w) (.cells cs 27))
  exact ⟨k.below, k.fld, k.row, fun x hx => by
    rcases List.mem_cons.1 hx with rfl | hx
    · exact ⟨Blk.new w _ _, fun q e => by have := h.lt q e; dsimp only; omega⟩
    · exact k.box x hx⟩
theorem MS.lit (h : MS w0 p R X w) (cs : Array Value) (l : List UInt8) (hm : cs.size ≤ maxLen) (e : cs.toList = l.map u8v) (c : Nat) (hc : l.length ≤ c) : MS w0 p (⟨some ⟨w.heap.size, 0, none⟩, l, c⟩ :: R) X (w.alloc (.cells cs 5)) := by
  have ho := own_made w cs 5 hm (base := w.heap.size) (Nat.le_refl _)
  rw [e] at ho
  exact (h.keep (nextA (Mem.start w) _)).new (w1 := w) (Nw.of_own ho) h.lt hc
theorem MS.cells (h : MS w0 p R X w) {g : Nat} {c0 c1 c2 : Value} (hx : (g, #[c0, c1, c2]) ∈ X) : w.cell? ⟨g, 0, none⟩ = some c0 ∧ w.cell? ⟨g, 1, none⟩ = some c1 ∧ w.cell? ⟨g, 2, none⟩ = some c2 := (cells3 (h.box _ hx).1).1
theorem MS.out (h : MS w0 none R X w) (hb : Below w.heap.size w w') (q : Nat) (hF : Fld w' q) (hq : w.heap.size ≤ q) : MS w0 (some q) R X w' := by
  have k := h.keep hb
  refine ⟨k.below, fun q' e => (by injection e with e; subst e; exact ⟨Nat.le_trans h.below.size hq, hF⟩), fun r hr => ⟨(k.row r hr).1, fun q' e b o e2 hl => ?_, (k.row r hr).2.2⟩, fun x hx => ⟨(k.box x hx).1, fun q' e => ?_⟩⟩
  · injection e with e
    obtain ⟨b', o', e', hlt, _⟩ := (h.row r hr).1 (by simpa using hl)
    rw [e2] at e'; injection e' with e'; injection e' with e' _
    omega
  · injection e with e
    have := (h.box x hx).1.lt
    omega
/-- A box written. -/
theorem MS.set {g : Nat} {i0 i1 : Int} {B : Option Addr} {nn cc : Nat} (h : MS w0 p R ((g, #[.int .i64 i0, .int .i64 i1, .slice B nn cc]) :: X) w) (hg : w0.heap.size ≤ g) (hne : ∀ x ∈ X, x.1 ≠ g) (v0 v1 v2 : Value) :
    MS w0 p R ((g, #[v0, v1, v2]) :: X) (((w.setCell ⟨g, 0, none⟩ v0).setCell ⟨g, 1, none⟩ v1).setCell ⟨g, 2, none⟩ v2) := by
  have hb := (h.box _ (.head _)).1
  have hq := (h.box _ (.head _)).2
  obtain ⟨hb', hf⟩ := set3 hb v0 v1 v2
  refine ⟨h.below.trans (hf.below h.below.size fun k hk => by rw [hk]; exact hg), fun q e => ⟨(h.fld q e).1, (h.fld q e).2.fr hf (fun e2 => hq q e e2.symm)⟩, fun r hr => ⟨fun hl => ?_, (h.row r hr).2⟩, fun x hx => ?_⟩
  · obtain ⟨b, off, e, hlt, hc⟩ := (h.row r hr).1 hl
    refine ⟨b, off, e, Nat.lt_of_lt_of_le hlt hf.size, fun j v hv => (World.cell?_of_block (hf.block b hlt fun e2 => ?_)).trans (hc j v hv)⟩
    dsimp only at e2
    subst e2
    have hl' : 0 < r.l.length := by simpa using hl
    have h1 := hc 0 (u8v r.l[0]) (by rw [List.getElem?_map, List.getElem?_eq_getElem hl']; rfl)
    obtain ⟨⟨k0, k1, k2⟩, _⟩ := cells3 hb
    rw [Nat.add_zero] at h1
    match off with
    | 0 => rw [k0] at h1; injection h1 with h1; injection h1 with h1 _; cases h1
    | 1 => rw [k1] at h1; injection h1 with h1; injection h1 with h1 _; cases h1
    | 2 => rw [k2] at h1; injection h1 with h1; cases h1
    | o + 3 => rw [hb.cell (o + 3), Array.getElem?_eq_none (by simp)] at h1; cases h1
  · rcases List.mem_cons.1 hx with rfl | hx
    · exact ⟨hb', hq⟩
    · exact ⟨(h.box x (.tail _ hx)).1.fr hf (hne x hx), (h.box x (.tail _ hx)).2⟩
theorem MS.far (h : MS w0 p R X w) : ∀ x ∈ X, x.1 ≠ w.heap.size := fun x hx => by have := (h.box x hx).1.lt; omega
theorem newMx : NewRun Try.prog 27 #[.int .i64 0, .int .i64 0, .slice none 0 0] := fun w => by kernel_rfl
theorem newR (h : MS w0 none R X w) : Calls Try.prog 12 #[] w fun e w' => e = .returned (.pointer (some ⟨w.heap.size, 0, none⟩)) ∧ MS w0 (some w.heap.size) R X w' :=
  (newf_any w).mono fun e w' ⟨he, hF, hb, hs⟩ => ⟨he, h.out hb _ (.inl hF) (Nat.le_refl _)⟩
theorem right_dim {r c n : Nat} (h : r ≤ 100 ∧ c ≤ 100) (hn : n = r * c) : rightB r c n = true := by
  unfold rightB
  rw [decide_eq_true_iff]
  exact ⟨by omega, by omega, by omega, by omega, by rw [hn]; simp⟩
variable (h : MS w0 p R X w)
include h
section
variable {A B : Option Addr} {a b : List UInt8} {ca cb n m r c d : Nat} {ma mb : M} {R1 C1 R2 C2 : Int}
theorem smallR (t : Int) (ht : 0 ≤ t ∧ t ≤ 100) {v : Bool} (hv : smallB t R1 C1 n = v) : Calls Try.prog 16 #[.agg #[.int .i64 R1, .int .i64 C1, .slice A n ca], .int .i64 t] w (SayM w0 p R X (.bool v)) := by
  subst hv
  exact (small_any w t R1 C1 ht A n ca).mono fun e w' ⟨he, hb⟩ => ⟨he, h.keep hb⟩
theorem rightR {v : Bool} (hv : rightB R1 C1 n = v) : Calls Try.prog 26 #[.agg #[.int .i64 R1, .int .i64 C1, .slice A n ca]] w (SayM w0 p R X (.bool v)) := by
  subst hv
  exact (right_any w R1 C1 A n ca).mono fun e w' ⟨he, hb⟩ => ⟨he, h.keep hb⟩
theorem sameR (ha : ⟨A, a, ca⟩ ∈ R) (hn : a.length = n) (hb : ⟨B, b, cb⟩ ∈ R) (hm : b.length = m) {v : Bool} (hv : sameB R1 C1 R2 C2 a b = v) :
    Calls Try.prog 24 #[.agg #[.int .i64 R1, .int .i64 C1, .slice A n ca], .agg #[.int .i64 R2, .int .i64 C2, .slice B m cb]] w (SayM w0 p R X (.bool v)) := by
  subst hv
  exact (same_any w R1 C1 R2 C2 A B a b n ca m cb _ _ hn hm (Nat.le_refl _) (Nat.le_refl _) (h.row _ ha).1 (h.row _ hb).1).mono fun e w' ⟨he, hb⟩ => ⟨he, h.keep hb⟩
theorem sameBytesR (ha : ⟨A, a, ca⟩ ∈ R) (hn : a.length = n) (hb : ⟨B, b, cb⟩ ∈ R) (hm : b.length = m) {v : Bool} (hv : decide (a = b) = v) :
    Calls Try.prog 41 #[.slice A n ca, .slice B m cb] w fun e w' => e = .returned (.bool v) ∧ w = w' := by
  subst hv
  exact sameBytes_any w A B a b n ca m cb _ _ hn hm (h.row _ ha).1 (h.row _ hb).1
theorem turnR (ha : ⟨A, a, ca⟩ ∈ R) (hn : n = r * c) (hR : R1 = r ∧ C1 = c) (hd : r ≤ 100 ∧ c ≤ 100) (hA : a = flat r c ma) (Ro Co : Int) (no : Nat) (ho : Ro = c ∧ Co = r ∧ no = c * r) {l : List UInt8} (hl : flat c r (fun x y => ma y x) = l) :
    Calls Try.prog 34 #[.agg #[.int .i64 R1, .int .i64 C1, .slice A n ca]] w (MatR w0 p R X Ro Co no l) := by
  obtain ⟨rfl, rfl⟩ := hR; obtain ⟨rfl, rfl, rfl⟩ := ho
  subst hA; subst hl
  have hq : r * c ≤ 10000 := Nat.mul_le_mul hd.1 hd.2
  refine (turned_ok w r c A n ca ma hn (right_dim hd hn) (by have := (h.row _ ha).2.2; rw [hn]; simpa [flat_len] using this) (by omega) (h.row _ ha).1).mono fun e w' ⟨A', cap, he, hle, hnw, hb⟩ => ⟨A', cap, he, (h.keep hb).new hnw h.lt (by rw [flat_len]; exact hle)⟩
theorem turn0R (hv : rightB R1 C1 n = false) : Calls Try.prog 34 #[.agg #[.int .i64 R1, .int .i64 C1, .slice A n ca]] w (SayM w0 p R X (.tuple #[.agg #[.int .i64 0, .int .i64 0, .slice none 0 0], .int .i64 50])) :=
  (turned_bad w R1 C1 A n ca hv).mono fun e w' ⟨he, hb⟩ => ⟨he, h.keep hb⟩
theorem oneR (hR : R1 = r) (hd : r ≤ 100) (no : Nat) (ho : no = r * r) {l : List UInt8} (hl : flat r r idm = l) : Calls Try.prog 27 #[.int .i64 R1] w (MatO w0 p R X R1 R1 no l) := by
  subst hR; subst ho; subst hl
  exact (one_in w r (by omega)).mono fun e w' ⟨A', cap, he, hle, hnw, hb⟩ => ⟨A', cap, he, (h.keep hb).new hnw h.lt (by rw [flat_len]; exact hle)⟩
theorem packdR (ha : ⟨A, a, ca⟩ ∈ R) (hn : n = r * r) (hR : R1 = r ∧ C1 = r) (hd : r ≤ 100) (hA : a = flat r r ma) (hs : flat r r (fun x y => ma y x) = flat r r ma) (no : Nat) (ho : no = offS r r) {l : List UInt8} (hl : packS r ma r = l) :
    Calls Try.prog 39 #[.agg #[.int .i64 R1, .int .i64 C1, .slice A n ca]] w (BytR w0 p R X no l) := by
  obtain ⟨rfl, rfl⟩ := hR
  subst hA; subst hl; subst ho
  have hq : r * r ≤ 10000 := Nat.mul_le_mul hd hd
  refine (packed_ok w r A n ca ma hn (right_dim ⟨hd, hd⟩ hn) (by have := (h.row _ ha).2.2; rw [hn]; simpa [flat_len] using this) (by omega) (h.row _ ha).1 hs).mono fun e w' ⟨A', cap, he, hle, hnw, hb⟩ => ⟨A', cap, he, (h.keep hb).new hnw h.lt (by rw [packS_len]; exact hle)⟩
theorem symR (ha : ⟨A, b, ca⟩ ∈ R) (hcm : ca ≤ maxLen) (hn : b.length = n) (hR : R1 = r) (hd : r ≤ 100) (h2 : 2 * n = r * (r + 1)) (no : Nat) (ho : no = r * r) {l : List UInt8} (hl : flat r r (symM r b) = l) :
    Calls Try.prog 30 #[.int .i64 R1, .slice A n ca] w (MatR w0 p R X R1 R1 no l) := by
  subst hR; subst ho; subst hl
  exact (sym_ok w r hd A b n ca hn h2 (by have := (h.row _ ha).2.2; dsimp only at this; omega) hcm (h.row _ ha).1).mono fun e w' ⟨A', cap, he, hle, hnw, hb⟩ => ⟨A', cap, he, (h.keep hb).new hnw h.lt (by rw [flat_len]; exact hle)⟩
theorem sym0R (hR : 0 ≤ R1 ∧ R1 ≤ 100) (h2 : (n : Int) ≠ R1 * (R1 + 1) / 2) : Calls Try.prog 30 #[.int .i64 R1, .slice A n ca] w (SayM w0 p R X (.tuple #[.agg #[.int .i64 0, .int .i64 0, .slice none 0 0], .int .i64 50])) :=
  (sym_bad w R1 A n ca (by omega) (.inr (.inr ⟨by omega, by omega, h2⟩))).mono fun e w' ⟨he, hb⟩ => ⟨he, h.keep hb⟩
end
end
section
variable {w0 w w' : World} {q : Nat} {R : List Rw} {X : List (Nat × Array Value)}
variable (h : MS w0 (some q) R X w)
include h
variable {A B : Option Addr} {a b : List UInt8} {ca cb n m r c d : Nat} {ma mb : M} {R1 C1 R2 C2 : Int}
theorem mulR (ha : ⟨A, a, ca⟩ ∈ R) (hb : ⟨B, b, cb⟩ ∈ R) (hn : n = r * c) (hm : m = c * d) (hR : R1 = r ∧ C1 = c ∧ R2 = c ∧ C2 = d) (hd : r ≤ 100 ∧ c ≤ 100 ∧ d ≤ 100) (hA : a = flat r c ma) (hB : b = flat c d mb)
    (Ro Co : Int) (no : Nat) (ho : Ro = r ∧ Co = d ∧ no = r * d) {l : List UInt8} (hl : flat r d (mulM c ma mb) = l) :
    Calls Try.prog 18 #[fptr (some q), .agg #[.int .i64 R1, .int .i64 C1, .slice A n ca], .agg #[.int .i64 R2, .int .i64 C2, .slice B m cb]] w (MatR w0 (some q) R X Ro Co no l) := by
  obtain ⟨rfl, rfl, rfl, rfl⟩ := hR; obtain ⟨rfl, rfl, rfl⟩ := ho
  subst hA; subst hB; subst hl
  have k1 := (h.row _ ha).2.2; have k2 := (h.row _ hb).2.2
  dsimp only at k1 k2
  rw [flat_len] at k1 k2
  refine (mul_ok w q (h.fld q rfl).2 r c d A B n ca m cb ma mb (right_dim ⟨hd.1, hd.2.1⟩ hn) (right_dim ⟨hd.2.1, hd.2.2⟩ hm) hd ⟨by omega, by omega⟩ (h.in_ ha) (h.in_ hb)).mono fun e w' ⟨A', cap, he, hle, hnw, hF, hf⟩ => ⟨A', cap, he, (h.fr hF hf).new hnw h.lt (by rw [flat_len]; exact hle)⟩
theorem mul0R (hv : mulB R1 C1 n R2 C2 m = false) : Calls Try.prog 18 #[fptr (some q), .agg #[.int .i64 R1, .int .i64 C1, .slice A n ca], .agg #[.int .i64 R2, .int .i64 C2, .slice B m cb]] w (SayM w0 (some q) R X (.tuple #[.agg #[.int .i64 0, .int .i64 0, .slice none 0 0], .int .i64 50])) :=
  (mul_bad w q R1 C1 R2 C2 A B n ca m cb hv).mono fun e w' ⟨he, hb⟩ => ⟨he, h.keep hb⟩
theorem rankR (ha : ⟨A, a, ca⟩ ∈ R) (hn : n = r * c) (hR : R1 = r ∧ C1 = c) (hd : r ≤ 100 ∧ c ≤ 100) (hA : a = flat r c ma) (Ko : Int) (ho : Ko = rankM r c ma) :
    Calls Try.prog 14 #[fptr (some q), .agg #[.int .i64 R1, .int .i64 C1, .slice A n ca]] w (SayM w0 (some q) R X (.tuple #[.int .i64 Ko, .int .i64 0])) := by
  obtain ⟨rfl, rfl⟩ := hR
  subst hA; subst ho
  exact (rank_ok w q (h.fld q rfl).2 r c A n ca ma (right_dim hd hn) hd (h.in_ ha)).mono fun e w' ⟨he, hF, hf⟩ => ⟨he, h.fr hF hf⟩
theorem solveR (ha : ⟨A, a, ca⟩ ∈ R) (hb : ⟨B, b, cb⟩ ∈ R) (hn : n = r * c) (hm : m = r * d) (hR : R1 = r ∧ C1 = c ∧ R2 = r ∧ C2 = d) (hd : r ≤ 100 ∧ c ≤ 100 ∧ d ≤ 100) (hA : a = flat r c ma) (hB : b = flat r d mb) (hs : solves r c d ma mb = true)
    (Ro Co : Int) (no : Nat) (ho : Ro = c ∧ Co = d ∧ no = c * d) {l : List UInt8} (hl : flat c d (redTo r ma mb c).B = l) :
    Calls Try.prog 21 #[fptr (some q), .agg #[.int .i64 R1, .int .i64 C1, .slice A n ca], .agg #[.int .i64 R2, .int .i64 C2, .slice B m cb]] w (MatR w0 (some q) R X Ro Co no l) := by
  obtain ⟨rfl, rfl, rfl, rfl⟩ := hR; obtain ⟨rfl, rfl, rfl⟩ := ho
  subst hA; subst hB; subst hl
  refine (solve_ok w q (h.fld q rfl).2 r c d A B n ca m cb ma mb (right_dim ⟨hd.1, hd.2.1⟩ hn) (right_dim ⟨hd.1, hd.2.2⟩ hm) hd (h.in_ ha) (h.in_ hb) hs).mono fun e w' ⟨A', cap, he, hle, hnw, hF, hf⟩ => ⟨A', cap, he, (h.fr hF hf).new hnw h.lt (by rw [flat_len]; exact hle)⟩
theorem solve1R (ha : ⟨A, a, ca⟩ ∈ R) (hb : ⟨B, b, cb⟩ ∈ R) (hn : n = r * c) (hm : m = r * d) (hR : R1 = r ∧ C1 = c ∧ R2 = r ∧ C2 = d) (hd : r ≤ 100 ∧ c ≤ 100 ∧ d ≤ 100) (hA : a = flat r c ma) (hB : b = flat r d mb) (hs : solves r c d ma mb = false) :
    Calls Try.prog 21 #[fptr (some q), .agg #[.int .i64 R1, .int .i64 C1, .slice A n ca], .agg #[.int .i64 R2, .int .i64 C2, .slice B m cb]] w (SayM w0 (some q) R X (.tuple #[.agg #[.int .i64 0, .int .i64 0, .slice none 0 0], .int .i64 51])) := by
  obtain ⟨rfl, rfl, rfl, rfl⟩ := hR
  subst hA; subst hB
  exact (solve_no w q (h.fld q rfl).2 r c d A B n ca m cb ma mb (right_dim ⟨hd.1, hd.2.1⟩ hn) (right_dim ⟨hd.1, hd.2.2⟩ hm) hd (h.in_ ha) (h.in_ hb) hs).mono fun e w' ⟨he, hF, hf⟩ => ⟨he, h.fr hF hf⟩
theorem solve0R (F : Value) (hv : solB R1 C1 n R2 C2 m = false) : Calls Try.prog 21 #[F, .agg #[.int .i64 R1, .int .i64 C1, .slice A n ca], .agg #[.int .i64 R2, .int .i64 C2, .slice B m cb]] w (SayM w0 (some q) R X (.tuple #[.agg #[.int .i64 0, .int .i64 0, .slice none 0 0], .int .i64 50])) :=
  (solve_bad w F R1 C1 R2 C2 A B n ca m cb hv).mono fun e w' ⟨he, hb⟩ => ⟨he, h.keep hb⟩
theorem invR (ha : ⟨A, a, ca⟩ ∈ R) (hn : n = r * r) (hR : R1 = r ∧ C1 = r) (hd : r ≤ 100) (hA : a = flat r r ma) (hs : solves r r r ma idm = true) (Ro : Int) (no : Nat) (ho : Ro = r ∧ no = r * r) {l : List UInt8} (hl : flat r r (redTo r ma idm r).B = l) :
    Calls Try.prog 15 #[fptr (some q), .agg #[.int .i64 R1, .int .i64 C1, .slice A n ca]] w (MatR w0 (some q) R X Ro Ro no l) := by
  obtain ⟨rfl, rfl⟩ := hR; obtain ⟨rfl, rfl⟩ := ho
  subst hA; subst hl
  refine (inv_ok w q (h.fld q rfl).2 r A n ca ma (right_dim ⟨hd, hd⟩ hn) hd (h.in_ ha) hs).mono fun e w' ⟨A', cap, he, hle, hnw, hF, hf⟩ => ⟨A', cap, he, (h.fr hF hf).new hnw h.lt (by rw [flat_len]; exact hle)⟩
theorem inv1R (ha : ⟨A, a, ca⟩ ∈ R) (hn : n = r * r) (hR : R1 = r ∧ C1 = r) (hd : r ≤ 100) (hA : a = flat r r ma) (hs : solves r r r ma idm = false) :
    Calls Try.prog 15 #[fptr (some q), .agg #[.int .i64 R1, .int .i64 C1, .slice A n ca]] w (SayM w0 (some q) R X (.tuple #[.agg #[.int .i64 0, .int .i64 0, .slice none 0 0], .int .i64 51])) := by
  obtain ⟨rfl, rfl⟩ := hR
  subst hA
  exact (inv_no w q (h.fld q rfl).2 r A n ca ma (right_dim ⟨hd, hd⟩ hn) hd (h.in_ ha) hs).mono fun e w' ⟨he, hF, hf⟩ => ⟨he, h.fr hF hf⟩
theorem inv0R (F : Value) (hv : (rightB R1 C1 n && R1 == C1) = false) : Calls Try.prog 15 #[F, .agg #[.int .i64 R1, .int .i64 C1, .slice A n ca]] w (SayM w0 (some q) R X (.tuple #[.agg #[.int .i64 0, .int .i64 0, .slice none 0 0], .int .i64 50])) :=
  (inv_bad w F R1 C1 A n ca hv).mono fun e w' ⟨he, hb⟩ => ⟨he, h.keep hb⟩
theorem powR (ha : ⟨A, a, ca⟩ ∈ R) (hn : a.length = n) (hR : C1 = c) (hd : n ≤ 1000 ∧ c ≤ 1000) (Ro : Int) (no : Nat) (ho : Ro = n ∧ no = n * c) {l : List UInt8} (hl : flat n c (powM a) = l) :
    Calls Try.prog 13 #[fptr (some q), .slice A n ca, .int .i64 C1] w (MatO w0 (some q) R X Ro C1 no l) := by
  obtain ⟨rfl, rfl⟩ := ho
  subst hR; subst hl
  have k : Calls Try.prog 13 #[fptr (some q), .slice A n ca, .int .i64 (c : Int)] w (NewMF w q n c (powM a)) := by
    rcases Nat.eq_zero_or_pos n with h0 | h0
    · exact pow_ok2 w q (h.fld q rfl).2 A a n ca hn c (h.in_ ha) hd h0
    · exact pow_ok1 w q (h.fld q rfl).2 A a n ca hn c (h.in_ ha) hd h0
  exact k.mono fun e w' ⟨A', cap, he, hle, hnw, hF, hf⟩ => ⟨A', cap, he, (h.fr hF hf).new hnw h.lt (by rw [flat_len]; exact hle)⟩
end
theorem Mx_field2 (W : World) (a b : Int) (A : Option Addr) (n c : Nat) : (Instr.field 27 (.agg #[.int .i64 a, .int .i64 b, .slice A n c]) 2).run Try.prog W = .ok (.slice A n c) W := by kernel_rfl
theorem Mx_build1 (W : World) (a : Int) : (Instr.buildSlice 22 1 #[(0, .int .u8 a)]).run Try.prog W = .ok (.slice (some ⟨W.heap.size, 0, none⟩) 1 1) (W.alloc (.cells #[.int .u8 a] 5)) := by kernel_rfl
theorem Mx_build2 (W : World) (a b : Int) : (Instr.buildSlice 22 2 #[(0, .int .u8 a), (1, .int .u8 b)]).run Try.prog W = .ok (.slice (some ⟨W.heap.size, 0, none⟩) 2 2) (W.alloc (.cells #[.int .u8 a, .int .u8 b] 5)) := by kernel_rfl
theorem Mx_build3 (W : World) (a b c : Int) : (Instr.buildSlice 22 3 #[(0, .int .u8 a), (1, .int .u8 b), (2, .int .u8 c)]).run Try.prog W = .ok (.slice (some ⟨W.heap.size, 0, none⟩) 3 3) (W.alloc (.cells #[.int .u8 a, .int .u8 b, .int .u8 c] 5)) := by kernel_rfl
theorem Mx_build4 (W : World) (a b c d : Int) : (Instr.buildSlice 22 4 #[(0, .int .u8 a), (1, .int .u8 b), (2, .int .u8 c), (3, .int .u8 d)]).run Try.prog W = .ok (.slice (some ⟨W.heap.size, 0, none⟩) 4 4) (W.alloc (.cells #[.int .u8 a, .int .u8 b, .int .u8 c, .int .u8 d] 5)) := by kernel_rfl
theorem Mx_build6 (W : World) (a b c d e f : Int) : (Instr.buildSlice 22 6 #[(0, .int .u8 a), (1, .int .u8 b), (2, .int .u8 c), (3, .int .u8 d), (4, .int .u8 e), (5, .int .u8 f)]).run Try.prog W = .ok (.slice (some ⟨W.heap.size, 0, none⟩) 6 6) (W.alloc (.cells #[.int .u8 a, .int .u8 b, .int .u8 c, .int .u8 d, .int .u8 e, .int .u8 f] 5)) := by kernel_rfl
end Go.Proofs.Ythdapoipfnnaeaa.MxW
/- What the calls of chapter 05 answer, plain: solutions, inverses, symmetric matrices. -/
namespace Go.Proofs.Ythdapoipfnnaeaa.MxW
open Gf FdW Mx Mem Rng
open Go.RowKit
set_option linter.unusedVariables false
set_option linter.unusedSectionVars false

theorem nz_false {l : List UInt8} (h : anyNz l = false) : ∀ x ∈ l, x = 0 := fun x hx => by
  unfold anyNz at h
  have := (List.any_eq_false.1 h) x hx
  unfold nz at this
  simpa using this
theorem drop_zero {r c d : Nat} {B : M} : anyNz ((flat r d B).drop (c * d)) = false ↔ ∀ i, c ≤ i → i < r → ∀ k, k < d → B i k = 0 := by
  constructor
  · intro h i hi hir k hk
    have h1 := flat_get (m := B) hir hk
    have hle : c * d ≤ i * d := Nat.mul_le_mul_right d hi
    refine nz_false h _ (List.mem_of_getElem? (i := i * d + k - c * d) ?_)
    rw [List.getElem?_drop, show c * d + (i * d + k - c * d) = i * d + k by omega]
    exact h1
  · intro h
    unfold anyNz
    refine List.any_eq_false.2 fun x hx => ?_
    obtain ⟨j, hj⟩ := List.mem_iff_getElem?.1 hx
    rw [List.getElem?_drop] at hj
    have hl : c * d + j < r * d := by
      have := (List.getElem?_eq_some_iff.1 hj).1
      rwa [flat_len] at this
    obtain ⟨i, k, hi, hk, e⟩ := idx_of hl
    rw [e, flat_get hi hk] at hj
    injection hj with hj
    rw [← hj, h i (Nat.le_of_not_lt fun hlt => by have := idx_lt hlt hk; omega) hi k hk]
    decide
section
variable {r c d : Nat} {a b x : M}
theorem rank_eq (r c : Nat) (a b : M) : (redTo r a b c).at_ = rankM r c a := (Mx.redTo_A a b (fun _ _ => 0) r c).2
theorem rank_min (r c : Nat) (a : M) : rankM r c a ≤ r ∧ rankM r c a ≤ c := redTo_at c
theorem solve_rank (h : solves r c d a b = true) : rankM r c a = c := by
  unfold solves at h
  rw [Bool.and_eq_true, decide_eq_true_iff, rank_eq] at h
  exact h.1
theorem solve_less (h : rankM r c a ≠ c) : solves r c d a b = false := by
  cases hs : solves r c d a b with
  | false => rfl
  | true => exact absurd (solve_rank hs) h
theorem solve_is (h : solves r c d a b = true) : flat r d (mulM c a (redTo r a b c).B) = flat r d b := by
  have hr := solve_rank h
  unfold solves at h
  rw [Bool.and_eq_true, Bool.not_eq_true', drop_zero] at h
  exact flat_congr fun i hi k hk => sol_is (by rw [rank_eq]; exact hr) (fun i h1 h2 => h.2 i h1 h2 k hk) i hi
theorem solve_full (hr : rankM r c a = c) : solves r c d a (mulM c a x) = true ∧ flat c d (redTo r a (mulM c a x) c).B = flat c d x := by
  have hk := fun k => sol_unique (A := a) (B := mulM c a x) (r := r) (c := c) (x := x) (k := k) (by rw [rank_eq]; exact hr) fun i _ => rfl
  refine ⟨?_, flat_congr fun i hi k _ => (hk k).1 i hi⟩
  unfold solves
  rw [Bool.and_eq_true, decide_eq_true_iff, Bool.not_eq_true', drop_zero, rank_eq]
  exact ⟨hr, fun i h1 h2 k _ => (hk k).2 i h1 h2⟩
theorem solve_sq (hr : rankM r r a = r) : solves r r d a b = true := by
  unfold solves
  rw [Bool.and_eq_true, decide_eq_true_iff, Bool.not_eq_true', drop_zero, rank_eq]
  exact ⟨hr, fun i h1 h2 => by omega⟩
theorem inv_right (h : solves r r r a idm = true) : flat r r (mulM r a (redTo r a idm r).B) = flat r r idm := solve_is h
theorem inv_left (h : solves r r r a idm = true) : flat r r (mulM r (redTo r a idm r).B a) = flat r r idm := by
  have hr := solve_rank h
  have h1 := inv_right h
  generalize (redTo r a idm r).B = v at h1 ⊢
  refine flat_congr fun i hi k hk => ?_
  have h2 := sol_unique (A := a) (B := a) (r := r) (c := r) (x := mulM r v a) (k := k) (by rw [rank_eq]; exact hr) fun i hi => by
    rw [← mulM_assoc]
    rw [mulM_congr (a' := idm') (b' := a) (fun j hj => flat_inj h1 hi hj) fun j _ => rfl]
    exact id_mulM a hi k
  have h3 := sol_unique (A := a) (B := a) (r := r) (c := r) (x := idm') (k := k) (by rw [rank_eq]; exact hr) fun i hi => mulM_id a i hk
  rw [← h2.1 i hi, h3.1 i hi]; rfl
end
theorem symM_turn (n : Nat) (b : List UInt8) (x y : Nat) : symM n b y x = symM n b x y := by
  unfold symM
  by_cases h : x ≤ y
  · by_cases h2 : y ≤ x
    · obtain rfl : x = y := by omega
      rfl
    · rw [if_neg h2, if_pos h]
  · rw [if_pos (by omega), if_neg h]
theorem packS_sym {n : Nat} {b : List UInt8} (hb : b.length = offS n n) : ∀ k, k ≤ n → packS n (symM n b) k = b.take (offS n k)
  | 0 => fun _ => rfl
  | k + 1 => by
    intro hk
    have h1 : offS n k + (n - k) ≤ offS n n := by have := offS_mono (n := n) (show k + 1 ≤ n from hk); exact this
    rw [packS_succ, packS_sym hb k (by omega), show offS n (k + 1) = offS n k + (n - k) from rfl, List.take_add]
    congr 1
    apply List.ext_getElem?
    intro j
    by_cases hj : j < n - k
    · rw [List.getElem?_take, if_pos hj, List.getElem?_drop]
      unfold packR
      rw [List.getElem?_map, List.getElem?_range hj, Option.map_some]
      unfold symM
      rw [if_pos (by omega), show k + j - k = j by omega, List.getD_eq_getElem?_getD, List.getElem?_eq_getElem (by omega)]; rfl
    · rw [List.getElem?_take, if_neg hj, List.getElem?_eq_none (by rw [packR_len]; omega)]
theorem packS_back {n : Nat} {b : List UInt8} (hb : b.length = offS n n) : packS n (symM n b) n = b := by
  rw [packS_sym hb n (Nat.le_refl _), ← hb, List.take_length]
theorem gram_sym (c r : Nat) (m : M) : flat r r (fun x y => mulM c m (fun x y => m y x) y x) = flat r r (mulM c m fun x y => m y x) :=
  flat_congr fun i _ k _ => by unfold mulM; exact xsum_congr fun j _ => mul_comm _ _
end Go.Proofs.Ythdapoipfnnaeaa.MxW
/- The examples of chapter 05 hold. -/
namespace Go.Proofs.Ythdapoipfnnaeaa.MxW
open Go.RowKit Go.Shelf Mem Gf FdW Mx Rng
open PlW (In)
set_option linter.unusedVariables false
set_option linter.unusedSectionVars false
attribute [local go_sem] Oper.semAt_some wide_fn
set_option maxRecDepth 100000 in
set_option maxHeartbeats 4000000 in
theorem works_any (w : World) : Calls Try.prog 11 #[] w fun e w' => e = .returned (.bool true) ∧ Below w.heap.size w w' := by
  have H0 := Lib.hid (MS.start w)
  go_enter Try.func11, Try.ntmps11
  go_wp2_with fail
  refine (newR H0.out).mono ?_
  rintro e w1 ⟨rfl, h⟩
  have H1 := Lib.hid h
  clear h
  have hb1 := Mx_build4 w1 1 2 0 1
  have L1 := Lib.hid (show MS _ _ (⟨some ⟨w1.heap.size, 0, none⟩, [1, 2, 0, 1], 4⟩ :: _) _ (w1.alloc (.cells #[.int .u8 1, .int .u8 2, .int .u8 0, .int .u8 1] 5)) from by have h := H1.out.lit #[.int .u8 1, .int .u8 2, .int .u8 0, .int .u8 1] [1, 2, 0, 1] (by simp [maxLen]) rfl 4 (by decide); (try simp only [World.size_alloc] at h); exact h)
  have hb2 := Mx_build2 (w1.alloc (.cells #[.int .u8 1, .int .u8 2, .int .u8 0, .int .u8 1] 5)) 3 4
  have L2 := Lib.hid (show MS _ _ (⟨some ⟨w1.heap.size + 1, 0, none⟩, [3, 4], 2⟩ :: _) _ ((w1.alloc (.cells #[.int .u8 1, .int .u8 2, .int .u8 0, .int .u8 1] 5)).alloc (.cells #[.int .u8 3, .int .u8 4] 5)) from by have h := L1.out.lit #[.int .u8 3, .int .u8 4] [3, 4] (by simp [maxLen]) rfl 2 (by decide); (try simp only [World.size_alloc] at h); exact h)
  go_wp2_with fail
  clear hb1 hb2
  have H2 := L2
  clear L1 L2
  generalize ((w1.alloc (.cells #[.int .u8 1, .int .u8 2, .int .u8 0, .int .u8 1] 5)).alloc (.cells #[.int .u8 3, .int .u8 4] 5)) = w2 at *
  refine (mulR H2.out (r := 2) (c := 2) (d := 1) (.tail _ (.head _)) (.head _) rfl rfl ⟨rfl, rfl, rfl, rfl⟩ (by decide) ((flat_ent rfl).symm) ((flat_ent rfl).symm) 2 1 2 ⟨rfl, rfl, rfl⟩ (l := [11, 4]) (by decide +kernel)).mono ?_
  rintro e w3 ⟨A3, c3, rfl, h⟩
  have H3 := Lib.hid h
  clear h
  have L3 := Lib.hid (show MS _ _ _ ((w3.heap.size, #[.int .i64 2, .int .i64 1, .slice A3 2 c3]) :: _) (w3.alloc (.cells #[.int .i64 2, .int .i64 1, .slice A3 2 c3] 27)) from by have h := H3.out.put #[.int .i64 2, .int .i64 1, .slice A3 2 c3]; (try simp only [World.size_alloc] at h); exact h)
  have hb4 := Mx_build4 (w3.alloc (.cells #[.int .i64 2, .int .i64 1, .slice A3 2 c3] 27)) 1 1 1 1
  have L4 := Lib.hid (show MS _ _ (⟨some ⟨w3.heap.size + 1, 0, none⟩, [1, 1, 1, 1], 4⟩ :: _) _ ((w3.alloc (.cells #[.int .i64 2, .int .i64 1, .slice A3 2 c3] 27)).alloc (.cells #[.int .u8 1, .int .u8 1, .int .u8 1, .int .u8 1] 5)) from by have h := L3.out.lit #[.int .u8 1, .int .u8 1, .int .u8 1, .int .u8 1] [1, 1, 1, 1] (by simp [maxLen]) rfl 4 (by decide); (try simp only [World.size_alloc] at h); exact h)
  go_wp2_with fail
  clear hb4
  have H4 := L4
  clear L3 L4
  generalize ((w3.alloc (.cells #[.int .i64 2, .int .i64 1, .slice A3 2 c3] 27)).alloc (.cells #[.int .u8 1, .int .u8 1, .int .u8 1, .int .u8 1] 5)) = w4 at *
  refine (rankR H4.out (r := 2) (c := 2) (.head _) rfl ⟨rfl, rfl⟩ (by decide) ((flat_ent rfl).symm) 1 (by decide +kernel)).mono ?_
  rintro e w5 ⟨rfl, h⟩
  have H5 := Lib.hid h
  clear h
  have hb5 := Mx_build4 w5 1 1 1 1
  have L5 := Lib.hid (show MS _ _ (⟨some ⟨w5.heap.size, 0, none⟩, [1, 1, 1, 1], 4⟩ :: _) _ (w5.alloc (.cells #[.int .u8 1, .int .u8 1, .int .u8 1, .int .u8 1] 5)) from by have h := H5.out.lit #[.int .u8 1, .int .u8 1, .int .u8 1, .int .u8 1] [1, 1, 1, 1] (by simp [maxLen]) rfl 4 (by decide); (try simp only [World.size_alloc] at h); exact h)
  go_wp2_with fail
  clear hb5
  have H6 := L5
  clear L5
  generalize (w5.alloc (.cells #[.int .u8 1, .int .u8 1, .int .u8 1, .int .u8 1] 5)) = w6 at *
  refine (inv1R H6.out (r := 2) (.head _) rfl ⟨rfl, rfl⟩ (by decide) ((flat_ent rfl).symm) (by decide +kernel)).mono ?_
  rintro e w7 ⟨rfl, h⟩
  have H7 := Lib.hid h
  clear h
  have L6 := Lib.hid (show MS _ _ _ ((w7.heap.size, #[.int .i64 0, .int .i64 0, .slice none 0 0]) :: _) (w7.alloc (.cells #[.int .i64 0, .int .i64 0, .slice none 0 0] 27)) from by have h := H7.out.put #[.int .i64 0, .int .i64 0, .slice none 0 0]; (try simp only [World.size_alloc] at h); exact h)
  have hb7 := Mx_build4 (w7.alloc (.cells #[.int .i64 0, .int .i64 0, .slice none 0 0] 27)) 1 1 0 1
  have L7 := Lib.hid (show MS _ _ (⟨some ⟨w7.heap.size + 1, 0, none⟩, [1, 1, 0, 1], 4⟩ :: _) _ ((w7.alloc (.cells #[.int .i64 0, .int .i64 0, .slice none 0 0] 27)).alloc (.cells #[.int .u8 1, .int .u8 1, .int .u8 0, .int .u8 1] 5)) from by have h := L6.out.lit #[.int .u8 1, .int .u8 1, .int .u8 0, .int .u8 1] [1, 1, 0, 1] (by simp [maxLen]) rfl 4 (by decide); (try simp only [World.size_alloc] at h); exact h)
  go_wp2_with fail
  clear hb7
  have H8 := L7
  clear L6 L7
  generalize ((w7.alloc (.cells #[.int .i64 0, .int .i64 0, .slice none 0 0] 27)).alloc (.cells #[.int .u8 1, .int .u8 1, .int .u8 0, .int .u8 1] 5)) = w8 at *
  refine (invR H8.out (r := 2) (.head _) rfl ⟨rfl, rfl⟩ (by decide) ((flat_ent rfl).symm) (by decide +kernel) 2 4 ⟨rfl, rfl⟩ (l := [1, 1, 0, 1]) (by decide +kernel)).mono ?_
  rintro e w9 ⟨A9, c9, rfl, h⟩
  have H9 := Lib.hid h
  clear h
  have L8 := Lib.hid (show MS _ _ _ ((w9.heap.size, #[.int .i64 2, .int .i64 2, .slice A9 4 c9]) :: _) (w9.alloc (.cells #[.int .i64 2, .int .i64 2, .slice A9 4 c9] 27)) from by have h := H9.out.put #[.int .i64 2, .int .i64 2, .slice A9 4 c9]; (try simp only [World.size_alloc] at h); exact h)
  have hb9 := Mx_build3 (w9.alloc (.cells #[.int .i64 2, .int .i64 2, .slice A9 4 c9] 27)) 1 2 3
  have L9 := Lib.hid (show MS _ _ (⟨some ⟨w9.heap.size + 1, 0, none⟩, [1, 2, 3], 3⟩ :: _) _ ((w9.alloc (.cells #[.int .i64 2, .int .i64 2, .slice A9 4 c9] 27)).alloc (.cells #[.int .u8 1, .int .u8 2, .int .u8 3] 5)) from by have h := L8.out.lit #[.int .u8 1, .int .u8 2, .int .u8 3] [1, 2, 3] (by simp [maxLen]) rfl 3 (by decide); (try simp only [World.size_alloc] at h); exact h)
  go_wp2_with fail
  clear hb9
  have H10 := L9
  clear L8 L9
  generalize ((w9.alloc (.cells #[.int .i64 2, .int .i64 2, .slice A9 4 c9] 27)).alloc (.cells #[.int .u8 1, .int .u8 2, .int .u8 3] 5)) = w10 at *
  refine (symR H10.out (r := 2) (.head _) (by simp [maxLen]) rfl rfl (by decide) rfl 4 rfl (l := [1, 2, 2, 3]) (by decide +kernel)).mono ?_
  rintro e w11 ⟨A11, c11, rfl, h⟩
  have H11 := Lib.hid h
  clear h
  have L10 := Lib.hid (show MS _ _ _ ((w11.heap.size, #[.int .i64 2, .int .i64 2, .slice A11 4 c11]) :: _) (w11.alloc (.cells #[.int .i64 2, .int .i64 2, .slice A11 4 c11] 27)) from by have h := H11.out.put #[.int .i64 2, .int .i64 2, .slice A11 4 c11]; (try simp only [World.size_alloc] at h); exact h)
  have hb11 := Mx_build2 (w11.alloc (.cells #[.int .i64 2, .int .i64 2, .slice A11 4 c11] 27)) 1 1
  have L11 := Lib.hid (show MS _ _ (⟨some ⟨w11.heap.size + 1, 0, none⟩, [1, 1], 2⟩ :: _) _ ((w11.alloc (.cells #[.int .i64 2, .int .i64 2, .slice A11 4 c11] 27)).alloc (.cells #[.int .u8 1, .int .u8 1] 5)) from by have h := L10.out.lit #[.int .u8 1, .int .u8 1] [1, 1] (by simp [maxLen]) rfl 2 (by decide); (try simp only [World.size_alloc] at h); exact h)
  have L12 := Lib.hid (show MS _ _ _ ((w11.heap.size + 1 + 1, #[.int .i64 2, .int .i64 1, .slice (some ⟨w11.heap.size + 1, 0, none⟩) 2 2]) :: _) (((w11.alloc (.cells #[.int .i64 2, .int .i64 2, .slice A11 4 c11] 27)).alloc (.cells #[.int .u8 1, .int .u8 1] 5)).alloc (.cells #[.int .i64 2, .int .i64 1, .slice (some ⟨w11.heap.size + 1, 0, none⟩) 2 2] 27)) from by have h := L11.out.put #[.int .i64 2, .int .i64 1, .slice (some ⟨w11.heap.size + 1, 0, none⟩) 2 2]; (try simp only [World.size_alloc] at h); exact h)
  obtain ⟨a13, b13, d13⟩ := L12.out.cells (.head _)
  have hb14 := Mx_build2 (((w11.alloc (.cells #[.int .i64 2, .int .i64 2, .slice A11 4 c11] 27)).alloc (.cells #[.int .u8 1, .int .u8 1] 5)).alloc (.cells #[.int .i64 2, .int .i64 1, .slice (some ⟨w11.heap.size + 1, 0, none⟩) 2 2] 27)) 5 5
  have L14 := Lib.hid (show MS _ _ (⟨some ⟨w11.heap.size + 1 + 1 + 1, 0, none⟩, [5, 5], 2⟩ :: _) _ ((((w11.alloc (.cells #[.int .i64 2, .int .i64 2, .slice A11 4 c11] 27)).alloc (.cells #[.int .u8 1, .int .u8 1] 5)).alloc (.cells #[.int .i64 2, .int .i64 1, .slice (some ⟨w11.heap.size + 1, 0, none⟩) 2 2] 27)).alloc (.cells #[.int .u8 5, .int .u8 5] 5)) from by have h := L12.out.lit #[.int .u8 5, .int .u8 5] [5, 5] (by simp [maxLen]) rfl 2 (by decide); (try simp only [World.size_alloc] at h); exact h)
  go_wp2_with fail
  clear hb11 a13 b13 d13 hb14
  have H12 := L14
  clear L10 L11 L12 L14
  generalize ((((w11.alloc (.cells #[.int .i64 2, .int .i64 2, .slice A11 4 c11] 27)).alloc (.cells #[.int .u8 1, .int .u8 1] 5)).alloc (.cells #[.int .i64 2, .int .i64 1, .slice (some ⟨w11.heap.size + 1, 0, none⟩) 2 2] 27)).alloc (.cells #[.int .u8 5, .int .u8 5] 5)) = w12 at *
  refine (solveR H12.out (r := 2) (c := 1) (d := 1) (.tail _ (.head _)) (.head _) rfl rfl ⟨rfl, rfl, rfl, rfl⟩ (by decide) ((flat_ent rfl).symm) ((flat_ent rfl).symm) (by decide +kernel) 1 1 1 ⟨rfl, rfl, rfl⟩ (l := [5]) (by decide +kernel)).mono ?_
  rintro e w13 ⟨A13, c13, rfl, h⟩
  have H13 := Lib.hid h
  clear h
  have L15 := Lib.hid (show MS _ _ _ ((w13.heap.size, #[.int .i64 1, .int .i64 1, .slice A13 1 c13]) :: _) (w13.alloc (.cells #[.int .i64 1, .int .i64 1, .slice A13 1 c13] 27)) from by have h := H13.out.put #[.int .i64 1, .int .i64 1, .slice A13 1 c13]; (try simp only [World.size_alloc] at h); exact h)
  obtain ⟨a16, b16, d16⟩ := L15.out.cells (.tail _ (.head _))
  have hb17 := Mx_build2 (w13.alloc (.cells #[.int .i64 1, .int .i64 1, .slice A13 1 c13] 27)) 5 6
  have L17 := Lib.hid (show MS _ _ (⟨some ⟨w13.heap.size + 1, 0, none⟩, [5, 6], 2⟩ :: _) _ ((w13.alloc (.cells #[.int .i64 1, .int .i64 1, .slice A13 1 c13] 27)).alloc (.cells #[.int .u8 5, .int .u8 6] 5)) from by have h := L15.out.lit #[.int .u8 5, .int .u8 6] [5, 6] (by simp [maxLen]) rfl 2 (by decide); (try simp only [World.size_alloc] at h); exact h)
  go_wp2_with fail
  clear a16 b16 d16 hb17
  have H14 := L17
  clear L15 L17
  generalize ((w13.alloc (.cells #[.int .i64 1, .int .i64 1, .slice A13 1 c13] 27)).alloc (.cells #[.int .u8 5, .int .u8 6] 5)) = w14 at *
  refine (solve1R H14.out (r := 2) (c := 1) (d := 1) (.tail _ (.tail _ (.tail _ (.head _)))) (.head _) rfl rfl ⟨rfl, rfl, rfl, rfl⟩ (by decide) ((flat_ent rfl).symm) ((flat_ent rfl).symm) (by decide +kernel)).mono ?_
  rintro e w15 ⟨rfl, h⟩
  have H15 := Lib.hid h
  clear h
  have L18 := Lib.hid (show MS _ _ _ ((w15.heap.size, #[.int .i64 0, .int .i64 0, .slice none 0 0]) :: _) (w15.alloc (.cells #[.int .i64 0, .int .i64 0, .slice none 0 0] 27)) from by have h := H15.out.put #[.int .i64 0, .int .i64 0, .slice none 0 0]; (try simp only [World.size_alloc] at h); exact h)
  obtain ⟨a19, b19, d19⟩ := L18.out.cells (.tail _ (.tail _ (.tail _ (.tail _ (.tail _ (.tail _ (.head _)))))))
  have hb20 := Mx_build2 (w15.alloc (.cells #[.int .i64 0, .int .i64 0, .slice none 0 0] 27)) 11 4
  have L20 := Lib.hid (show MS _ _ (⟨some ⟨w15.heap.size + 1, 0, none⟩, [11, 4], 2⟩ :: _) _ ((w15.alloc (.cells #[.int .i64 0, .int .i64 0, .slice none 0 0] 27)).alloc (.cells #[.int .u8 11, .int .u8 4] 5)) from by have h := L18.out.lit #[.int .u8 11, .int .u8 4] [11, 4] (by simp [maxLen]) rfl 2 (by decide); (try simp only [World.size_alloc] at h); exact h)
  go_wp2_with fail
  clear a19 b19 d19 hb20
  have H16 := L20
  clear L18 L20
  generalize ((w15.alloc (.cells #[.int .i64 0, .int .i64 0, .slice none 0 0] 27)).alloc (.cells #[.int .u8 11, .int .u8 4] 5)) = w16 at *
  refine (sameBytesR H16.out (.tail _ (.tail _ (.tail _ (.tail _ (.tail _ (.tail _ (.tail _ (.tail _ (.tail _ (.tail _ (.tail _ (.head _)))))))))))) rfl (.head _) rfl (v := true) (by decide)).mono ?_
  rintro e w' ⟨rfl, rfl⟩
  obtain ⟨a21, b21, d21⟩ := H16.out.cells (.tail _ (.tail _ (.tail _ (.tail _ (.head _)))))
  have hb22 := Mx_build4 w16 1 1 0 1
  have L22 := Lib.hid (show MS _ _ (⟨some ⟨w16.heap.size, 0, none⟩, [1, 1, 0, 1], 4⟩ :: _) _ (w16.alloc (.cells #[.int .u8 1, .int .u8 1, .int .u8 0, .int .u8 1] 5)) from by have h := H16.out.lit #[.int .u8 1, .int .u8 1, .int .u8 0, .int .u8 1] [1, 1, 0, 1] (by simp [maxLen]) rfl 4 (by decide); (try simp only [World.size_alloc] at h); exact h)
  go_wp2_with fail
  clear a21 b21 d21 hb22
  have H17 := L22
  clear L22
  generalize (w16.alloc (.cells #[.int .u8 1, .int .u8 1, .int .u8 0, .int .u8 1] 5)) = w17 at *
  refine (sameBytesR H17.out (.tail _ (.tail _ (.tail _ (.tail _ (.tail _ (.tail _ (.tail _ (.tail _ (.head _))))))))) rfl (.head _) rfl (v := true) (by decide)).mono ?_
  rintro e w' ⟨rfl, rfl⟩
  have hb23 := Mx_build2 w17 1 2
  have L23 := Lib.hid (show MS _ _ (⟨some ⟨w17.heap.size, 0, none⟩, [1, 2], 2⟩ :: _) _ (w17.alloc (.cells #[.int .u8 1, .int .u8 2] 5)) from by have h := H17.out.lit #[.int .u8 1, .int .u8 2] [1, 2] (by simp [maxLen]) rfl 2 (by decide); (try simp only [World.size_alloc] at h); exact h)
  go_wp2_with fail
  clear hb23
  have H18 := L23
  clear L23
  generalize (w17.alloc (.cells #[.int .u8 1, .int .u8 2] 5)) = w18 at *
  refine (powR H18.out (c := 3) (.head _) rfl rfl (by decide) 2 6 ⟨rfl, rfl⟩ (l := [1, 1, 1, 1, 2, 4]) (by decide +kernel)).mono ?_
  rintro e w19 ⟨A19, c19, rfl, h⟩
  have H19 := Lib.hid h
  clear h
  have hfd := fun W => Mx_field2 W 2 3 A19 6 c19
  have hb24 := Mx_build6 w19 1 1 1 1 2 4
  have L24 := Lib.hid (show MS _ _ (⟨some ⟨w19.heap.size, 0, none⟩, [1, 1, 1, 1, 2, 4], 6⟩ :: _) _ (w19.alloc (.cells #[.int .u8 1, .int .u8 1, .int .u8 1, .int .u8 1, .int .u8 2, .int .u8 4] 5)) from by have h := H19.out.lit #[.int .u8 1, .int .u8 1, .int .u8 1, .int .u8 1, .int .u8 2, .int .u8 4] [1, 1, 1, 1, 2, 4] (by simp [maxLen]) rfl 6 (by decide); (try simp only [World.size_alloc] at h); exact h)
  go_wp2_with fail
  clear hb24
  have H20 := L24
  clear L24
  generalize (w19.alloc (.cells #[.int .u8 1, .int .u8 1, .int .u8 1, .int .u8 1, .int .u8 2, .int .u8 4] 5)) = w20 at *
  refine (sameBytesR H20.out (.tail _ (.head _)) rfl (.head _) rfl (v := true) (by decide)).mono ?_
  rintro e w' ⟨rfl, rfl⟩
  clear hfd
  obtain ⟨a25, b25, d25⟩ := H20.out.cells (.tail _ (.tail _ (.tail _ (.head _))))
  have hb26 := Mx_build4 w20 1 2 2 3
  have L26 := Lib.hid (show MS _ _ (⟨some ⟨w20.heap.size, 0, none⟩, [1, 2, 2, 3], 4⟩ :: _) _ (w20.alloc (.cells #[.int .u8 1, .int .u8 2, .int .u8 2, .int .u8 3] 5)) from by have h := H20.out.lit #[.int .u8 1, .int .u8 2, .int .u8 2, .int .u8 3] [1, 2, 2, 3] (by simp [maxLen]) rfl 4 (by decide); (try simp only [World.size_alloc] at h); exact h)
  go_wp2_with fail
  clear a25 b25 d25 hb26
  have H21 := L26
  clear L26
  generalize (w20.alloc (.cells #[.int .u8 1, .int .u8 2, .int .u8 2, .int .u8 3] 5)) = w21 at *
  refine (sameBytesR H21.out (.tail _ (.tail _ (.tail _ (.tail _ (.tail _ (.tail _ (.tail _ (.tail _ (.tail _ (.tail _ (.head _))))))))))) rfl (.head _) rfl (v := true) (by decide)).mono ?_
  rintro e w' ⟨rfl, rfl⟩
  obtain ⟨a27, b27, d27⟩ := H21.out.cells (.tail _ (.head _))
  have hb28 := Mx_build1 w21 5
  have L28 := Lib.hid (show MS _ _ (⟨some ⟨w21.heap.size, 0, none⟩, [5], 1⟩ :: _) _ (w21.alloc (.cells #[.int .u8 5] 5)) from by have h := H21.out.lit #[.int .u8 5] [5] (by simp [maxLen]) rfl 1 (by decide); (try simp only [World.size_alloc] at h); exact h)
  go_wp2_with fail
  clear a27 b27 d27 hb28
  have H22 := L28
  clear L28
  generalize (w21.alloc (.cells #[.int .u8 5] 5)) = w22 at *
  refine (sameBytesR H22.out (.tail _ (.tail _ (.tail _ (.tail _ (.tail _ (.tail _ (.tail _ (.tail _ (.head _))))))))) rfl (.head _) rfl (v := true) (by decide)).mono ?_
  rintro e w' ⟨rfl, rfl⟩
  go_wp2_with fail
  go_ret
  exact ⟨rfl, H22.out.below⟩
end Go.Proofs.Ythdapoipfnnaeaa.MxW
/- The law MatrixPowers: its walk. -/
namespace Go.Proofs.Ythdapoipfnnaeaa.MxW
open Go.RowKit Go.Shelf Mem Gf FdW Mx Rng
open PlW (In)
set_option linter.unusedVariables false
set_option linter.unusedSectionVars false
attribute [local go_sem] Oper.semAt_some wide_fn

theorem solves_sq (r : Nat) (a : M) : solves r r r a idm = decide (rankM r r a = r) := by
  unfold solves rankM
  rw [List.drop_of_length_le (by rw [flat_len]; exact Nat.le_refl _), (Mx.redTo_A a idm (fun _ _ => 0) r r).2]
  simp [anyNz]
/-- Is place i none of the first k? -/
def frst (xs : List UInt8) (i k : Nat) : Bool := decide (∀ j, j < k → xs.getD j 0 ≠ xs.getD i 0)
theorem frst_zero (xs : List UInt8) (i : Nat) : frst xs i 0 = true := by unfold frst; exact decide_eq_true fun j hj => absurd hj (Nat.not_lt_zero _)
theorem frst_off {xs : List UInt8} {i k : Nat} (h : frst xs i k = false) : frst xs i (k + 1) = false := by
  unfold frst at h ⊢
  rw [decide_eq_false_iff_not] at h ⊢
  exact fun h2 => h fun j hj => h2 j (by omega)
theorem frst_hit {xs : List UInt8} {i k : Nat} (h : xs.getD k 0 = xs.getD i 0) : frst xs i (k + 1) = false := by
  unfold frst
  rw [decide_eq_false_iff_not]
  exact fun h2 => h2 k (by omega) h
theorem frst_on {xs : List UInt8} {i k : Nat} (h : frst xs i k = true) (h2 : xs.getD k 0 ≠ xs.getD i 0) : frst xs i (k + 1) = true := by
  unfold frst at h ⊢
  rw [decide_eq_true_iff] at h ⊢
  intro j hj
  by_cases e : j = k
  · rw [e]; exact h2
  · exact h j (by omega)
theorem unl_on {xs : List UInt8} {i : Nat} (h : frst xs i i = true) : (unl xs (i + 1)).length = (unl xs i).length + 1 := by
  unfold frst at h
  rw [decide_eq_true_iff] at h
  rw [unl, if_neg, List.length_append, List.length_singleton]
  rw [unl_mem]
  rintro ⟨j, hj, e⟩
  exact h j hj e
theorem unl_off {xs : List UInt8} {i : Nat} (h : frst xs i i = false) : (unl xs (i + 1)).length = (unl xs i).length := by
  unfold frst at h
  rw [decide_eq_false_iff_not] at h
  rw [unl, if_pos]
  rw [unl_mem]
  refine Classical.byContradiction fun h2 => h fun j hj e => h2 ⟨j, hj, e⟩
set_option maxRecDepth 100000 in
set_option maxHeartbeats 4000000 in
theorem powers_out (w : World) (A : Option Addr) (xs : List UInt8) (n c : Nat) (hn : xs.length = n) (h : (10 : Int) < n ∨ n = 0) :
    Calls Try.prog 3 #[.slice A n c] w fun e w' => e = .returned (.bool true) ∧ Below w.heap.size w w' := by
  rcases h with h | h
  · go_enter Try.func3, Try.ntmps3
    go_wp2_with fail
    refine (works_any _).mono ?_
    rintro e w1 ⟨rfl, hb⟩
    have H1 := Lib.hid hb
    clear hb
    go_wp2_with fail
    go_ret
    exact ⟨rfl, H1.out⟩
  · subst h
    clear hn
    go_enter Try.func3, Try.ntmps3
    go_wp2_with fail
    refine (works_any _).mono ?_
    rintro e w1 ⟨rfl, hb⟩
    have H1 := Lib.hid hb
    clear hb
    go_wp2_with fail
    go_ret
    exact ⟨rfl, H1.out⟩
set_option maxRecDepth 100000 in
set_option maxHeartbeats 4000000 in
theorem powers_in (w : World) (A : Option Addr) (xs : List UInt8) (n c : Nat) (hn : xs.length = n) (hc : n ≤ c) (hA : Bytes w w.heap.size A xs) (h1 : ¬ (10 : Int) < n) (h0 : ((n : Int) == 0) = false) :
    Calls Try.prog 3 #[.slice A n c] w fun e w' => e = .returned (.bool true) ∧ Below w.heap.size w w' := by
  have H0 := Lib.hid ((MS.start w).arg hA (by rw [hn]; exact hc))
  have HN := Lib.hid hn
  clear hA hn hc
  go_enter Try.func3, Try.ntmps3
  go_wp2_with fail
  refine (newR H0.out).mono ?_
  rintro e w1 ⟨rfl, h⟩
  have H1 := Lib.hid h
  clear h
  go_wp2_with fail
  go_loopw [4, 5] (fun u i wr => ∃ k : Nat, i = .int .i64 (k : Int) ∧ u = .int .i64 ((unl xs k).length : Int) ∧ k ≤ n ∧ MS w (some w.heap.size) [⟨A, xs, c⟩] [] wr) (fun _ i _ => n - (intOf i).toNat)
  case atStart => exact ⟨0, rfl, rfl, Nat.zero_le _, H1.out⟩
  case round =>
    obtain ⟨i, rfl, rfl, hi, h⟩ := hrel
    have H2 := Lib.hid h
    clear h H1
    obtain ⟨w2, rfl⟩ : ∃ w2 : World, w2 = wr := ⟨_, rfl⟩
    obtain ⟨u, hu⟩ : ∃ u, (unl xs i).length = u := ⟨_, rfl⟩
    have hu9 : (u : Int) ≤ 10 := by have := unl_len xs i; omega
    rw [hu]
    have HU := Lib.hid hu
    clear hu
    by_cases hin : i < n
    · have hi1 : (i : Int) < (n : Int) := by omega
      have hi0 : (0 : Int) ≤ (i : Int) := by omega
      have hwi : IntKind.i64.wrap ((i : Int) + 1) = ((i + 1 : Nat) : Int) := by rw [IntWalk.i64_in _ (by omega)]; omega
      have hwu : IntKind.i64.wrap ((u : Int) + 1) = ((u + 1 : Nat) : Int) := by rw [IntWalk.i64_in _ (by omega)]; omega
      go_wp2_with fail
      go_loopw [6, 7] (fun b k wr => ∃ j : Nat, k = .int .i64 (j : Int) ∧ b = .bool (frst xs i j) ∧ j ≤ i ∧ MS w (some w.heap.size) [⟨A, xs, c⟩] [] wr) (fun _ k _ => i - (intOf k).toNat)
      case atStart => exact ⟨0, rfl, by rw [frst_zero], Nat.zero_le _, H2.out⟩
      case round =>
        obtain ⟨j, rfl, rfl, hj, h⟩ := hrel
        have H3 := Lib.hid h
        clear h
        obtain ⟨w3, rfl⟩ : ∃ w3 : World, w3 = wr := ⟨_, rfl⟩
        by_cases hji : j < i
        · have hj1 : (j : Int) < (i : Int) := by omega
          have hj2 : (j : Int) < (n : Int) := by omega
          have hj0 : (0 : Int) ≤ (j : Int) := by omega
          have hwj : IntKind.i64.wrap ((j : Int) + 1) = ((j + 1 : Nat) : Int) := by rw [IntWalk.i64_in _ (by omega)]; omega
          cases hf : frst xs i j with
          | false =>
            have HF := Lib.hid (frst_off hf)
            clear hf
            go_wp2_with fail
            go_quiet (fail)
            go_wp2_with fail
            go_roundw
            case rel => exact ⟨j + 1, rfl, by rw [HF.out], hji, H3.out.keep (nextN (Mem.start _) _)⟩
            case measure => simp [intOf]; omega
          | true =>
            have HF := Lib.hid hf
            clear hf
            obtain ⟨b, o, rfl, hb, hcj⟩ := (H3.out.row _ (.head _)).1.at_ (k := j) (by rw [HN.out]; omega)
            obtain ⟨b', o', e', hb', hci⟩ := (H3.out.row _ (.head _)).1.at_ (k := i) (by rw [HN.out]; omega)
            injection e' with e'; injection e' with e' e''
            subst e'; subst e''
            dsimp only at hcj hci
            obtain ⟨x, hx⟩ : ∃ x, xs.getD j 0 = x := ⟨_, rfl⟩
            obtain ⟨y, hy⟩ : ∃ y, xs.getD i 0 = y := ⟨_, rfl⟩
            rw [show xs[j]'(by rw [HN.out]; omega) = x from by rw [← hx, List.getD_eq_getElem?_getD, List.getElem?_eq_getElem (by rw [HN.out]; omega)]; rfl] at hcj
            rw [show xs[i]'(by rw [HN.out]; omega) = y from by rw [← hy, List.getD_eq_getElem?_getD, List.getElem?_eq_getElem (by rw [HN.out]; omega)]; rfl] at hci
            by_cases hxy : x = y
            · have HF2 := Lib.hid (frst_hit (xs := xs) (i := i) (k := j) (by rw [hx, hy, hxy]))
              have hne : ((x.toNat : Int) != (y.toNat : Int)) = false := by rw [hxy]; simp
              clear hx hy hxy
              go_wp2_with fail
              go_quiet (fail)
              go_wp2_with fail
              go_roundw
              case rel => exact ⟨j + 1, rfl, by rw [HF2.out], hji, H3.out.keep (nextN (Mem.start _) _)⟩
              case measure => simp [intOf]; omega
            · have HF2 := Lib.hid (frst_on HF.out (by rw [hx, hy]; exact hxy))
              have hne : ((x.toNat : Int) != (y.toNat : Int)) = true := by
                rw [bne_iff_ne]; exact fun e => hxy (UInt8.toNat_inj.1 (by omega))
              clear hx hy hxy
              go_wp2_with fail
              go_quiet (fail)
              go_wp2_with fail
              go_roundw
              case rel => exact ⟨j + 1, rfl, by rw [HF2.out], hji, H3.out.keep (nextN (Mem.start _) _)⟩
              case measure => simp [intOf]; omega
        · obtain rfl : i = j := by omega
          cases hf : frst xs i i with
          | false =>
            have HF := Lib.hid (unl_off hf)
            clear hf
            go_wp2_with fail
            go_roundw
            case rel => exact ⟨i + 1, rfl, by rw [HF.out, HU.out], hin, H3.out⟩
            case measure => simp [intOf]; omega
          | true =>
            have HF := Lib.hid (unl_on hf)
            clear hf
            go_wp2_with fail
            go_roundw
            case rel => exact ⟨i + 1, rfl, by rw [HF.out, HU.out]; simp, hin, H3.out⟩
            case measure => simp [intOf]; omega
    · obtain rfl : n = i := by omega
      have HR := Lib.hid (show rankM n n (powM xs) = u from by rw [← HU.out, ← van_rank]; rfl)
      have hn9 : n ≤ 10 := by omega
      have HN9 := Lib.hid hn9
      go_wp2_with fail
      refine (powR H2.out (c := n) (.head _) HN.out rfl (by have := HN9.out; omega) n (n * n) ⟨rfl, rfl⟩ rfl).mono ?_
      rintro e w3 ⟨A3, c3, rfl, h⟩
      have H3 := Lib.hid h
      clear h
      have L1 := Lib.hid (H3.out.put #[.int .i64 n, .int .i64 n, .slice A3 (n * n) c3])
      obtain ⟨a1, b1, d1⟩ := L1.out.cells (.head _)
      go_wp2_with fail
      clear a1 b1 d1
      generalize w3.alloc (.cells #[.int .i64 n, .int .i64 n, .slice A3 (n * n) c3] 27) = w4 at *
      refine (rankR L1.out (.head _) rfl ⟨rfl, rfl⟩ (by have := HN9.out; omega) rfl u (by rw [HR.out])).mono ?_
      rintro e w5 ⟨rfl, h⟩
      have H5 := Lib.hid h
      clear h
      obtain ⟨a1, b1, d1⟩ := H5.out.cells (.head _)
      go_wp2_with fail
      clear a1 b1 d1
      by_cases hun : u = n
      · subst hun
        refine (invR H5.out (.head _) rfl ⟨rfl, rfl⟩ (by have := HN9.out; omega) rfl (by rw [solves_sq, HR.out]; simp) u (u * u) ⟨rfl, rfl⟩ rfl).mono ?_
        rintro e w6 ⟨A6, c6, rfl, h⟩
        have H6 := Lib.hid h
        clear h
        have L2 := Lib.hid (H6.out.put #[.int .i64 u, .int .i64 u, .slice A6 (u * u) c6])
        go_wp2_with fail
        generalize w6.alloc (.cells #[.int .i64 u, .int .i64 u, .slice A6 (u * u) c6] 27) = w7 at *
        refine (works_any _).mono ?_
        rintro e w8 ⟨rfl, hb⟩
        have H8 := Lib.hid (L2.out.keep hb)
        clear hb
        go_wp2_with fail
        go_ret
        exact ⟨rfl, H8.out.below⟩
      · refine (inv1R H5.out (.head _) rfl ⟨rfl, rfl⟩ (by have := HN9.out; omega) rfl (by rw [solves_sq, HR.out]; simpa using hun)).mono ?_
        rintro e w6 ⟨rfl, h⟩
        have H6 := Lib.hid h
        clear h
        have hun1 : ((u : Int) == (n : Int)) = false := by simp; omega
        have L2 := Lib.hid (H6.out.put #[.int .i64 0, .int .i64 0, .slice none 0 0])
        go_wp2_with fail
        generalize w6.alloc (.cells #[.int .i64 0, .int .i64 0, .slice none 0 0] 27) = w7 at *
        refine (works_any _).mono ?_
        rintro e w8 ⟨rfl, hb⟩
        have H8 := Lib.hid (L2.out.keep hb)
        clear hb
        go_wp2_with fail
        go_ret
        exact ⟨rfl, H8.out.below⟩
theorem powers_law (w : World) (A : Option Addr) (l : List UInt8) (c : Nat) (hc : l.length ≤ c) (_ : c ≤ maxLen) (hA : Bytes w w.heap.size A l) :
    Calls Try.prog 3 #[.slice A l.length c] w fun e w' => e = .returned (.bool true) ∧ Below w.heap.size w w' := by
  by_cases h : (10 : Int) < (l.length : Int) ∨ l.length = 0
  · exact powers_out w A l l.length c rfl h
  · exact powers_in w A l l.length c rfl hc hA (fun h1 => h (.inl h1)) (by simp; exact fun h1 => h (.inr (by rw [h1]; rfl)))
end Go.Proofs.Ythdapoipfnnaeaa.MxW
/- The law MatrixProducts: its walk. -/
namespace Go.Proofs.Ythdapoipfnnaeaa.MxW
open Go.RowKit Go.Shelf Mem Gf FdW Mx Rng
open PlW (In)
set_option linter.unusedVariables false
set_option linter.unusedSectionVars false
attribute [local go_sem] Oper.semAt_some wide_fn
open Mx (mulM_assoc id_mulM mulM_turn)
theorem small8 {r s : Nat} (hr : r ≤ 8) (hs : s ≤ 8) : smallB 8 r s (r * s) = true := by
  have h : r * s ≤ 8 * 8 := Nat.mul_le_mul hr hs
  unfold smallB
  rw [decide_eq_true_iff]
  exact ⟨by omega, by omega, by omega⟩
theorem sameB_self (R C : Int) (a : List UInt8) : sameB R C R C a a = true := by unfold sameB; exact decide_eq_true ⟨rfl, rfl, rfl⟩
set_option maxRecDepth 100000 in
set_option maxHeartbeats 4000000 in
theorem products_out0 (w : World)  (Ra Ca : Int) (A : Option Addr) (la : List UInt8) (na ca : Nat) (hla : la.length = na) (hA : Bytes w w.heap.size A la) (hca : la.length ≤ ca) (Rb Cb : Int) (B : Option Addr) (lb : List UInt8) (nb cb : Nat) (hlb : lb.length = nb) (hB : Bytes w w.heap.size B lb) (hcb : lb.length ≤ cb) (Rc Cc : Int) (C : Option Addr) (lc : List UInt8) (nc cc : Nat) (hlc : lc.length = nc) (hC : Bytes w w.heap.size C lc) (hcc : lc.length ≤ cc) (hsa : smallB 8 Ra Ca na = false) :
    Calls Try.prog 7 #[.agg #[.int .i64 Ra, .int .i64 Ca, .slice A na ca], .agg #[.int .i64 Rb, .int .i64 Cb, .slice B nb cb], .agg #[.int .i64 Rc, .int .i64 Cc, .slice C nc cc]] w fun e w' => e = .returned (.bool true) ∧ Below w.heap.size w w' := by
  have H0 := Lib.hid ((((MS.start w).arg hA hca).arg hB hcb).arg hC hcc)
  have HLNa := Lib.hid hla
  have HLNb := Lib.hid hlb
  have HLNc := Lib.hid hlc
  have HSa := Lib.hid hsa
  clear hA hca hla hB hcb hlb hC hcc hlc hsa
  go_enter Try.func7, Try.ntmps7
  have L1 := Lib.hid (show MS _ _ _ ((w.heap.size, #[.int .i64 Ra, .int .i64 Ca, .slice A na ca]) :: _) (w.alloc (.cells #[.int .i64 Ra, .int .i64 Ca, .slice A na ca] 27)) from by have h := H0.out.put #[.int .i64 Ra, .int .i64 Ca, .slice A na ca]; (try simp only [World.size_alloc] at h); exact h)
  have L2 := Lib.hid (show MS _ _ _ ((w.heap.size + 1, #[.int .i64 Rb, .int .i64 Cb, .slice B nb cb]) :: _) ((w.alloc (.cells #[.int .i64 Ra, .int .i64 Ca, .slice A na ca] 27)).alloc (.cells #[.int .i64 Rb, .int .i64 Cb, .slice B nb cb] 27)) from by have h := L1.out.put #[.int .i64 Rb, .int .i64 Cb, .slice B nb cb]; (try simp only [World.size_alloc] at h); exact h)
  have L3 := Lib.hid (show MS _ _ _ ((w.heap.size + 1 + 1, #[.int .i64 Rc, .int .i64 Cc, .slice C nc cc]) :: _) (((w.alloc (.cells #[.int .i64 Ra, .int .i64 Ca, .slice A na ca] 27)).alloc (.cells #[.int .i64 Rb, .int .i64 Cb, .slice B nb cb] 27)).alloc (.cells #[.int .i64 Rc, .int .i64 Cc, .slice C nc cc] 27)) from by have h := L2.out.put #[.int .i64 Rc, .int .i64 Cc, .slice C nc cc]; (try simp only [World.size_alloc] at h); exact h)
  obtain ⟨a4, b4, d4⟩ := L3.out.cells (.tail _ (.tail _ (.head _)))
  go_wp2_with fail
  clear a4 b4 d4
  have H1 := L3
  clear L1 L2 L3
  generalize (((w.alloc (.cells #[.int .i64 Ra, .int .i64 Ca, .slice A na ca] 27)).alloc (.cells #[.int .i64 Rb, .int .i64 Cb, .slice B nb cb] 27)).alloc (.cells #[.int .i64 Rc, .int .i64 Cc, .slice C nc cc] 27)) = w1 at *
  refine (smallR H1.out 8 (by decide) (v := false) HSa.out).mono ?_
  rintro e w2 ⟨rfl, h⟩
  have H2 := Lib.hid h
  clear h
  go_wp2_with fail
  refine (works_any _).mono ?_
  rintro e w3 ⟨rfl, hb⟩
  have H3 := Lib.hid (MS.keep H2.out hb)
  clear hb
  go_wp2_with fail
  go_ret
  exact ⟨rfl, H3.out.below⟩
set_option maxRecDepth 100000 in
set_option maxHeartbeats 4000000 in
theorem products_out1 (w : World)  (Ra Ca : Int) (A : Option Addr) (la : List UInt8) (na ca : Nat) (hla : la.length = na) (hA : Bytes w w.heap.size A la) (hca : la.length ≤ ca) (Rb Cb : Int) (B : Option Addr) (lb : List UInt8) (nb cb : Nat) (hlb : lb.length = nb) (hB : Bytes w w.heap.size B lb) (hcb : lb.length ≤ cb) (Rc Cc : Int) (C : Option Addr) (lc : List UInt8) (nc cc : Nat) (hlc : lc.length = nc) (hC : Bytes w w.heap.size C lc) (hcc : lc.length ≤ cc) (hsa : smallB 8 Ra Ca na = true) (hsb : smallB 8 Rb Cb nb = false) :
    Calls Try.prog 7 #[.agg #[.int .i64 Ra, .int .i64 Ca, .slice A na ca], .agg #[.int .i64 Rb, .int .i64 Cb, .slice B nb cb], .agg #[.int .i64 Rc, .int .i64 Cc, .slice C nc cc]] w fun e w' => e = .returned (.bool true) ∧ Below w.heap.size w w' := by
  have H0 := Lib.hid ((((MS.start w).arg hA hca).arg hB hcb).arg hC hcc)
  have HLNa := Lib.hid hla
  have HLNb := Lib.hid hlb
  have HLNc := Lib.hid hlc
  have HSa := Lib.hid hsa
  have HSb := Lib.hid hsb
  clear hA hca hla hB hcb hlb hC hcc hlc hsa hsb
  go_enter Try.func7, Try.ntmps7
  have L1 := Lib.hid (show MS _ _ _ ((w.heap.size, #[.int .i64 Ra, .int .i64 Ca, .slice A na ca]) :: _) (w.alloc (.cells #[.int .i64 Ra, .int .i64 Ca, .slice A na ca] 27)) from by have h := H0.out.put #[.int .i64 Ra, .int .i64 Ca, .slice A na ca]; (try simp only [World.size_alloc] at h); exact h)
  have L2 := Lib.hid (show MS _ _ _ ((w.heap.size + 1, #[.int .i64 Rb, .int .i64 Cb, .slice B nb cb]) :: _) ((w.alloc (.cells #[.int .i64 Ra, .int .i64 Ca, .slice A na ca] 27)).alloc (.cells #[.int .i64 Rb, .int .i64 Cb, .slice B nb cb] 27)) from by have h := L1.out.put #[.int .i64 Rb, .int .i64 Cb, .slice B nb cb]; (try simp only [World.size_alloc] at h); exact h)
  have L3 := Lib.hid (show MS _ _ _ ((w.heap.size + 1 + 1, #[.int .i64 Rc, .int .i64 Cc, .slice C nc cc]) :: _) (((w.alloc (.cells #[.int .i64 Ra, .int .i64 Ca, .slice A na ca] 27)).alloc (.cells #[.int .i64 Rb, .int .i64 Cb, .slice B nb cb] 27)).alloc (.cells #[.int .i64 Rc, .int .i64 Cc, .slice C nc cc] 27)) from by have h := L2.out.put #[.int .i64 Rc, .int .i64 Cc, .slice C nc cc]; (try simp only [World.size_alloc] at h); exact h)
  obtain ⟨a4, b4, d4⟩ := L3.out.cells (.tail _ (.tail _ (.head _)))
  go_wp2_with fail
  clear a4 b4 d4
  have H1 := L3
  clear L1 L2 L3
  generalize (((w.alloc (.cells #[.int .i64 Ra, .int .i64 Ca, .slice A na ca] 27)).alloc (.cells #[.int .i64 Rb, .int .i64 Cb, .slice B nb cb] 27)).alloc (.cells #[.int .i64 Rc, .int .i64 Cc, .slice C nc cc] 27)) = w1 at *
  refine (smallR H1.out 8 (by decide) (v := true) HSa.out).mono ?_
  rintro e w2 ⟨rfl, h⟩
  have H2 := Lib.hid h
  clear h
  obtain ⟨a5, b5, d5⟩ := H2.out.cells (.tail _ (.head _))
  go_wp2_with fail
  clear a5 b5 d5
  refine (smallR H2.out 8 (by decide) (v := false) HSb.out).mono ?_
  rintro e w3 ⟨rfl, h⟩
  have H3 := Lib.hid h
  clear h
  go_wp2_with fail
  refine (works_any _).mono ?_
  rintro e w4 ⟨rfl, hb⟩
  have H4 := Lib.hid (MS.keep H3.out hb)
  clear hb
  go_wp2_with fail
  go_ret
  exact ⟨rfl, H4.out.below⟩
set_option maxRecDepth 100000 in
set_option maxHeartbeats 4000000 in
theorem products_out2 (w : World)  (Ra Ca : Int) (A : Option Addr) (la : List UInt8) (na ca : Nat) (hla : la.length = na) (hA : Bytes w w.heap.size A la) (hca : la.length ≤ ca) (Rb Cb : Int) (B : Option Addr) (lb : List UInt8) (nb cb : Nat) (hlb : lb.length = nb) (hB : Bytes w w.heap.size B lb) (hcb : lb.length ≤ cb) (Rc Cc : Int) (C : Option Addr) (lc : List UInt8) (nc cc : Nat) (hlc : lc.length = nc) (hC : Bytes w w.heap.size C lc) (hcc : lc.length ≤ cc) (hsa : smallB 8 Ra Ca na = true) (hsb : smallB 8 Rb Cb nb = true) (hsc : smallB 8 Rc Cc nc = false) :
    Calls Try.prog 7 #[.agg #[.int .i64 Ra, .int .i64 Ca, .slice A na ca], .agg #[.int .i64 Rb, .int .i64 Cb, .slice B nb cb], .agg #[.int .i64 Rc, .int .i64 Cc, .slice C nc cc]] w fun e w' => e = .returned (.bool true) ∧ Below w.heap.size w w' := by
  have H0 := Lib.hid ((((MS.start w).arg hA hca).arg hB hcb).arg hC hcc)
  have HLNa := Lib.hid hla
  have HLNb := Lib.hid hlb
  have HLNc := Lib.hid hlc
  have HSa := Lib.hid hsa
  have HSb := Lib.hid hsb
  have HSc := Lib.hid hsc
  clear hA hca hla hB hcb hlb hC hcc hlc hsa hsb hsc
  go_enter Try.func7, Try.ntmps7
  have L1 := Lib.hid (show MS _ _ _ ((w.heap.size, #[.int .i64 Ra, .int .i64 Ca, .slice A na ca]) :: _) (w.alloc (.cells #[.int .i64 Ra, .int .i64 Ca, .slice A na ca] 27)) from by have h := H0.out.put #[.int .i64 Ra, .int .i64 Ca, .slice A na ca]; (try simp only [World.size_alloc] at h); exact h)
  have L2 := Lib.hid (show MS _ _ _ ((w.heap.size + 1, #[.int .i64 Rb, .int .i64 Cb, .slice B nb cb]) :: _) ((w.alloc (.cells #[.int .i64 Ra, .int .i64 Ca, .slice A na ca] 27)).alloc (.cells #[.int .i64 Rb, .int .i64 Cb, .slice B nb cb] 27)) from by have h := L1.out.put #[.int .i64 Rb, .int .i64 Cb, .slice B nb cb]; (try simp only [World.size_alloc] at h); exact h)
  have L3 := Lib.hid (show MS _ _ _ ((w.heap.size + 1 + 1, #[.int .i64 Rc, .int .i64 Cc, .slice C nc cc]) :: _) (((w.alloc (.cells #[.int .i64 Ra, .int .i64 Ca, .slice A na ca] 27)).alloc (.cells #[.int .i64 Rb, .int .i64 Cb, .slice B nb cb] 27)).alloc (.cells #[.int .i64 Rc, .int .i64 Cc, .slice C nc cc] 27)) from by have h := L2.out.put #[.int .i64 Rc, .int .i64 Cc, .slice C nc cc]; (try simp only [World.size_alloc] at h); exact h)
  obtain ⟨a4, b4, d4⟩ := L3.out.cells (.tail _ (.tail _ (.head _)))
  go_wp2_with fail
  clear a4 b4 d4
  have H1 := L3
  clear L1 L2 L3
  generalize (((w.alloc (.cells #[.int .i64 Ra, .int .i64 Ca, .slice A na ca] 27)).alloc (.cells #[.int .i64 Rb, .int .i64 Cb, .slice B nb cb] 27)).alloc (.cells #[.int .i64 Rc, .int .i64 Cc, .slice C nc cc] 27)) = w1 at *
  refine (smallR H1.out 8 (by decide) (v := true) HSa.out).mono ?_
  rintro e w2 ⟨rfl, h⟩
  have H2 := Lib.hid h
  clear h
  obtain ⟨a5, b5, d5⟩ := H2.out.cells (.tail _ (.head _))
  go_wp2_with fail
  clear a5 b5 d5
  refine (smallR H2.out 8 (by decide) (v := true) HSb.out).mono ?_
  rintro e w3 ⟨rfl, h⟩
  have H3 := Lib.hid h
  clear h
  obtain ⟨a6, b6, d6⟩ := H3.out.cells (.head _)
  go_wp2_with fail
  clear a6 b6 d6
  refine (smallR H3.out 8 (by decide) (v := false) HSc.out).mono ?_
  rintro e w4 ⟨rfl, h⟩
  have H4 := Lib.hid h
  clear h
  go_wp2_with fail
  refine (works_any _).mono ?_
  rintro e w5 ⟨rfl, hb⟩
  have H5 := Lib.hid (MS.keep H4.out hb)
  clear hb
  go_wp2_with fail
  go_ret
  exact ⟨rfl, H5.out.below⟩
set_option maxRecDepth 100000 in
set_option maxHeartbeats 4000000 in
theorem products_bad0 (w : World)  (Ra Ca : Int) (A : Option Addr) (la : List UInt8) (na ca : Nat) (hla : la.length = na) (hA : Bytes w w.heap.size A la) (hca : la.length ≤ ca) (Rb Cb : Int) (B : Option Addr) (lb : List UInt8) (nb cb : Nat) (hlb : lb.length = nb) (hB : Bytes w w.heap.size B lb) (hcb : lb.length ≤ cb) (Rc Cc : Int) (C : Option Addr) (lc : List UInt8) (nc cc : Nat) (hlc : lc.length = nc) (hC : Bytes w w.heap.size C lc) (hcc : lc.length ≤ cc) (hsa : smallB 8 Ra Ca na = true) (hsb : smallB 8 Rb Cb nb = true) (hsc : smallB 8 Rc Cc nc = true) (hm0 : mulB Ra Ca na Rb Cb nb = false) (hm1 : mulB Rb Cb nb Rc Cc nc = false)  :
    Calls Try.prog 7 #[.agg #[.int .i64 Ra, .int .i64 Ca, .slice A na ca], .agg #[.int .i64 Rb, .int .i64 Cb, .slice B nb cb], .agg #[.int .i64 Rc, .int .i64 Cc, .slice C nc cc]] w fun e w' => e = .returned (.bool true) ∧ Below w.heap.size w w' := by
  have H0 := Lib.hid ((((MS.start w).arg hA hca).arg hB hcb).arg hC hcc)
  have HLNa := Lib.hid hla
  have HLNb := Lib.hid hlb
  have HLNc := Lib.hid hlc
  have HSa := Lib.hid hsa
  have HSb := Lib.hid hsb
  have HSc := Lib.hid hsc
  have HM0 := Lib.hid hm0
  have HM1 := Lib.hid hm1
  clear hA hca hla hB hcb hlb hC hcc hlc hsa hsb hsc hm0 hm1
  go_enter Try.func7, Try.ntmps7
  have L1 := Lib.hid (show MS _ _ _ ((w.heap.size, #[.int .i64 Ra, .int .i64 Ca, .slice A na ca]) :: _) (w.alloc (.cells #[.int .i64 Ra, .int .i64 Ca, .slice A na ca] 27)) from by have h := H0.out.put #[.int .i64 Ra, .int .i64 Ca, .slice A na ca]; (try simp only [World.size_alloc] at h); exact h)
  have L2 := Lib.hid (show MS _ _ _ ((w.heap.size + 1, #[.int .i64 Rb, .int .i64 Cb, .slice B nb cb]) :: _) ((w.alloc (.cells #[.int .i64 Ra, .int .i64 Ca, .slice A na ca] 27)).alloc (.cells #[.int .i64 Rb, .int .i64 Cb, .slice B nb cb] 27)) from by have h := L1.out.put #[.int .i64 Rb, .int .i64 Cb, .slice B nb cb]; (try simp only [World.size_alloc] at h); exact h)
  have L3 := Lib.hid (show MS _ _ _ ((w.heap.size + 1 + 1, #[.int .i64 Rc, .int .i64 Cc, .slice C nc cc]) :: _) (((w.alloc (.cells #[.int .i64 Ra, .int .i64 Ca, .slice A na ca] 27)).alloc (.cells #[.int .i64 Rb, .int .i64 Cb, .slice B nb cb] 27)).alloc (.cells #[.int .i64 Rc, .int .i64 Cc, .slice C nc cc] 27)) from by have h := L2.out.put #[.int .i64 Rc, .int .i64 Cc, .slice C nc cc]; (try simp only [World.size_alloc] at h); exact h)
  obtain ⟨a4, b4, d4⟩ := L3.out.cells (.tail _ (.tail _ (.head _)))
  go_wp2_with fail
  clear a4 b4 d4
  have H1 := L3
  clear L1 L2 L3
  generalize (((w.alloc (.cells #[.int .i64 Ra, .int .i64 Ca, .slice A na ca] 27)).alloc (.cells #[.int .i64 Rb, .int .i64 Cb, .slice B nb cb] 27)).alloc (.cells #[.int .i64 Rc, .int .i64 Cc, .slice C nc cc] 27)) = w1 at *
  refine (smallR H1.out 8 (by decide) (v := true) HSa.out).mono ?_
  rintro e w2 ⟨rfl, h⟩
  have H2 := Lib.hid h
  clear h
  obtain ⟨a5, b5, d5⟩ := H2.out.cells (.tail _ (.head _))
  go_wp2_with fail
  clear a5 b5 d5
  refine (smallR H2.out 8 (by decide) (v := true) HSb.out).mono ?_
  rintro e w3 ⟨rfl, h⟩
  have H3 := Lib.hid h
  clear h
  obtain ⟨a6, b6, d6⟩ := H3.out.cells (.head _)
  go_wp2_with fail
  clear a6 b6 d6
  refine (smallR H3.out 8 (by decide) (v := true) HSc.out).mono ?_
  rintro e w4 ⟨rfl, h⟩
  have H4 := Lib.hid h
  clear h
  go_wp2_with fail
  refine (newR H4.out).mono ?_
  rintro e w5 ⟨rfl, h⟩
  have H5 := Lib.hid h
  clear h
  obtain ⟨a7, b7, d7⟩ := H5.out.cells (.tail _ (.tail _ (.head _)))
  obtain ⟨a8, b8, d8⟩ := H5.out.cells (.tail _ (.head _))
  go_wp2_with fail
  clear a7 b7 d7 a8 b8 d8
  refine (mul0R H5.out HM0.out).mono ?_
  rintro e w6 ⟨rfl, h⟩
  have H6 := Lib.hid h
  clear h
  have L9 := Lib.hid (show MS _ _ _ ((w6.heap.size, #[.int .i64 0, .int .i64 0, .slice none 0 0]) :: _) (w6.alloc (.cells #[.int .i64 0, .int .i64 0, .slice none 0 0] 27)) from by have h := H6.out.put #[.int .i64 0, .int .i64 0, .slice none 0 0]; (try simp only [World.size_alloc] at h); exact h)
  obtain ⟨a10, b10, d10⟩ := L9.out.cells (.tail _ (.tail _ (.head _)))
  obtain ⟨a11, b11, d11⟩ := L9.out.cells (.tail _ (.head _))
  go_wp2_with fail
  clear a10 b10 d10 a11 b11 d11
  have H7 := L9
  clear L9
  generalize (w6.alloc (.cells #[.int .i64 0, .int .i64 0, .slice none 0 0] 27)) = w7 at *
  refine (mul0R H7.out HM1.out).mono ?_
  rintro e w8 ⟨rfl, h⟩
  have H8 := Lib.hid h
  clear h
  have L12 := Lib.hid (show MS _ _ _ ((w8.heap.size, #[.int .i64 0, .int .i64 0, .slice none 0 0]) :: _) (w8.alloc (.cells #[.int .i64 0, .int .i64 0, .slice none 0 0] 27)) from by have h := H8.out.put #[.int .i64 0, .int .i64 0, .slice none 0 0]; (try simp only [World.size_alloc] at h); exact h)
  go_wp2_with fail
  have H9 := L12
  clear L12
  generalize (w8.alloc (.cells #[.int .i64 0, .int .i64 0, .slice none 0 0] 27)) = w9 at *
  refine (works_any _).mono ?_
  rintro e w10 ⟨rfl, hb⟩
  have H10 := Lib.hid (MS.keep H9.out hb)
  clear hb
  go_wp2_with fail
  go_ret
  exact ⟨rfl, H10.out.below⟩
set_option maxRecDepth 100000 in
set_option maxHeartbeats 4000000 in
theorem products_bad1 (w : World) (s t u : Nat) (hd : s ≤ 8 ∧ t ≤ 8 ∧ u ≤ 8) (Ra Ca : Int) (A : Option Addr) (la : List UInt8) (na ca : Nat) (hla : la.length = na) (hA : Bytes w w.heap.size A la) (hca : la.length ≤ ca) (B : Option Addr) (cb : Nat) (mb : M) (hB : Bytes w w.heap.size B (flat s t mb)) (hcb : (flat s t mb).length ≤ cb) (C : Option Addr) (cc : Nat) (mc : M) (hC : Bytes w w.heap.size C (flat t u mc)) (hcc : (flat t u mc).length ≤ cc) (hsa : smallB 8 Ra Ca na = true) (hm0 : mulB Ra Ca na (s : Int) (t : Int) (s * t) = false)  :
    Calls Try.prog 7 #[.agg #[.int .i64 Ra, .int .i64 Ca, .slice A na ca], .agg #[.int .i64 (s : Int), .int .i64 (t : Int), .slice B (s * t) cb], .agg #[.int .i64 (t : Int), .int .i64 (u : Int), .slice C (t * u) cc]] w fun e w' => e = .returned (.bool true) ∧ Below w.heap.size w w' := by
  have H0 := Lib.hid ((((MS.start w).arg hA hca).arg hB hcb).arg hC hcc)
  have HLNa := Lib.hid hla
  have HM0 := Lib.hid hm0
  have HSc := Lib.hid (small8 (r := t) (s := u) (by omega) (by omega))
  have HSb := Lib.hid (small8 (r := s) (s := t) (by omega) (by omega))
  have HSa := Lib.hid hsa
  have HD := Lib.hid hd
  clear hA hca hla hB hcb hC hcc hd hsa hm0
  go_enter Try.func7, Try.ntmps7
  have L1 := Lib.hid (show MS _ _ _ ((w.heap.size, #[.int .i64 Ra, .int .i64 Ca, .slice A na ca]) :: _) (w.alloc (.cells #[.int .i64 Ra, .int .i64 Ca, .slice A na ca] 27)) from by have h := H0.out.put #[.int .i64 Ra, .int .i64 Ca, .slice A na ca]; (try simp only [World.size_alloc] at h); exact h)
  have L2 := Lib.hid (show MS _ _ _ ((w.heap.size + 1, #[.int .i64 (s : Int), .int .i64 (t : Int), .slice B (s * t) cb]) :: _) ((w.alloc (.cells #[.int .i64 Ra, .int .i64 Ca, .slice A na ca] 27)).alloc (.cells #[.int .i64 (s : Int), .int .i64 (t : Int), .slice B (s * t) cb] 27)) from by have h := L1.out.put #[.int .i64 (s : Int), .int .i64 (t : Int), .slice B (s * t) cb]; (try simp only [World.size_alloc] at h); exact h)
  have L3 := Lib.hid (show MS _ _ _ ((w.heap.size + 1 + 1, #[.int .i64 (t : Int), .int .i64 (u : Int), .slice C (t * u) cc]) :: _) (((w.alloc (.cells #[.int .i64 Ra, .int .i64 Ca, .slice A na ca] 27)).alloc (.cells #[.int .i64 (s : Int), .int .i64 (t : Int), .slice B (s * t) cb] 27)).alloc (.cells #[.int .i64 (t : Int), .int .i64 (u : Int), .slice C (t * u) cc] 27)) from by have h := L2.out.put #[.int .i64 (t : Int), .int .i64 (u : Int), .slice C (t * u) cc]; (try simp only [World.size_alloc] at h); exact h)
  obtain ⟨a4, b4, d4⟩ := L3.out.cells (.tail _ (.tail _ (.head _)))
  go_wp2_with fail
  clear a4 b4 d4
  have H1 := L3
  clear L1 L2 L3
  generalize (((w.alloc (.cells #[.int .i64 Ra, .int .i64 Ca, .slice A na ca] 27)).alloc (.cells #[.int .i64 (s : Int), .int .i64 (t : Int), .slice B (s * t) cb] 27)).alloc (.cells #[.int .i64 (t : Int), .int .i64 (u : Int), .slice C (t * u) cc] 27)) = w1 at *
  refine (smallR H1.out 8 (by decide) (v := true) HSa.out).mono ?_
  rintro e w2 ⟨rfl, h⟩
  have H2 := Lib.hid h
  clear h
  obtain ⟨a5, b5, d5⟩ := H2.out.cells (.tail _ (.head _))
  go_wp2_with fail
  clear a5 b5 d5
  refine (smallR H2.out 8 (by decide) (v := true) HSb.out).mono ?_
  rintro e w3 ⟨rfl, h⟩
  have H3 := Lib.hid h
  clear h
  obtain ⟨a6, b6, d6⟩ := H3.out.cells (.head _)
  go_wp2_with fail
  clear a6 b6 d6
  refine (smallR H3.out 8 (by decide) (v := true) HSc.out).mono ?_
  rintro e w4 ⟨rfl, h⟩
  have H4 := Lib.hid h
  clear h
  go_wp2_with fail
  refine (newR H4.out).mono ?_
  rintro e w5 ⟨rfl, h⟩
  have H5 := Lib.hid h
  clear h
  obtain ⟨a7, b7, d7⟩ := H5.out.cells (.tail _ (.tail _ (.head _)))
  obtain ⟨a8, b8, d8⟩ := H5.out.cells (.tail _ (.head _))
  go_wp2_with fail
  clear a7 b7 d7 a8 b8 d8
  refine (mul0R H5.out HM0.out).mono ?_
  rintro e w6 ⟨rfl, h⟩
  have H6 := Lib.hid h
  clear h
  have L9 := Lib.hid (show MS _ _ _ ((w6.heap.size, #[.int .i64 0, .int .i64 0, .slice none 0 0]) :: _) (w6.alloc (.cells #[.int .i64 0, .int .i64 0, .slice none 0 0] 27)) from by have h := H6.out.put #[.int .i64 0, .int .i64 0, .slice none 0 0]; (try simp only [World.size_alloc] at h); exact h)
  obtain ⟨a10, b10, d10⟩ := L9.out.cells (.tail _ (.tail _ (.head _)))
  obtain ⟨a11, b11, d11⟩ := L9.out.cells (.tail _ (.head _))
  go_wp2_with fail
  clear a10 b10 d10 a11 b11 d11
  have H7 := L9
  clear L9
  generalize (w6.alloc (.cells #[.int .i64 0, .int .i64 0, .slice none 0 0] 27)) = w7 at *
  refine (mulR H7.out (r := s) (c := t) (d := u) (.tail _ (.head _)) (.head _) rfl rfl ⟨rfl, rfl, rfl, rfl⟩ (by have := HD.out; omega) rfl rfl s u (s * u) ⟨rfl, rfl, rfl⟩ rfl).mono ?_
  rintro e w8 ⟨A8, c8, rfl, h⟩
  have H8 := Lib.hid h
  clear h
  have L12 := Lib.hid (show MS _ _ _ ((w8.heap.size, #[.int .i64 (s : Int), .int .i64 (u : Int), .slice A8 (s * u) c8]) :: _) (w8.alloc (.cells #[.int .i64 (s : Int), .int .i64 (u : Int), .slice A8 (s * u) c8] 27)) from by have h := H8.out.put #[.int .i64 (s : Int), .int .i64 (u : Int), .slice A8 (s * u) c8]; (try simp only [World.size_alloc] at h); exact h)
  go_wp2_with fail
  have H9 := L12
  clear L12
  generalize (w8.alloc (.cells #[.int .i64 (s : Int), .int .i64 (u : Int), .slice A8 (s * u) c8] 27)) = w9 at *
  refine (works_any _).mono ?_
  rintro e w10 ⟨rfl, hb⟩
  have H10 := Lib.hid (MS.keep H9.out hb)
  clear hb
  go_wp2_with fail
  go_ret
  exact ⟨rfl, H10.out.below⟩
set_option maxRecDepth 100000 in
set_option maxHeartbeats 4000000 in
theorem products_bad2 (w : World) (r s t : Nat) (hd : r ≤ 8 ∧ s ≤ 8 ∧ t ≤ 8) (A : Option Addr) (ca : Nat) (ma : M) (hA : Bytes w w.heap.size A (flat r s ma)) (hca : (flat r s ma).length ≤ ca) (B : Option Addr) (cb : Nat) (mb : M) (hB : Bytes w w.heap.size B (flat s t mb)) (hcb : (flat s t mb).length ≤ cb) (Rc Cc : Int) (C : Option Addr) (lc : List UInt8) (nc cc : Nat) (hlc : lc.length = nc) (hC : Bytes w w.heap.size C lc) (hcc : lc.length ≤ cc) (hsc : smallB 8 Rc Cc nc = true) (hm1 : mulB (s : Int) (t : Int) (s * t) Rc Cc nc = false)  :
    Calls Try.prog 7 #[.agg #[.int .i64 (r : Int), .int .i64 (s : Int), .slice A (r * s) ca], .agg #[.int .i64 (s : Int), .int .i64 (t : Int), .slice B (s * t) cb], .agg #[.int .i64 Rc, .int .i64 Cc, .slice C nc cc]] w fun e w' => e = .returned (.bool true) ∧ Below w.heap.size w w' := by
  have H0 := Lib.hid ((((MS.start w).arg hA hca).arg hB hcb).arg hC hcc)
  have HLNc := Lib.hid hlc
  have HM1 := Lib.hid hm1
  have HSc := Lib.hid hsc
  have HSb := Lib.hid (small8 (r := s) (s := t) (by omega) (by omega))
  have HSa := Lib.hid (small8 (r := r) (s := s) (by omega) (by omega))
  have HD := Lib.hid hd
  clear hA hca hB hcb hC hcc hlc hd hsc hm1
  go_enter Try.func7, Try.ntmps7
  have L1 := Lib.hid (show MS _ _ _ ((w.heap.size, #[.int .i64 (r : Int), .int .i64 (s : Int), .slice A (r * s) ca]) :: _) (w.alloc (.cells #[.int .i64 (r : Int), .int .i64 (s : Int), .slice A (r * s) ca] 27)) from by have h := H0.out.put #[.int .i64 (r : Int), .int .i64 (s : Int), .slice A (r * s) ca]; (try simp only [World.size_alloc] at h); exact h)
  have L2 := Lib.hid (show MS _ _ _ ((w.heap.size + 1, #[.int .i64 (s : Int), .int .i64 (t : Int), .slice B (s * t) cb]) :: _) ((w.alloc (.cells #[.int .i64 (r : Int), .int .i64 (s : Int), .slice A (r * s) ca] 27)).alloc (.cells #[.int .i64 (s : Int), .int .i64 (t : Int), .slice B (s * t) cb] 27)) from by have h := L1.out.put #[.int .i64 (s : Int), .int .i64 (t : Int), .slice B (s * t) cb]; (try simp only [World.size_alloc] at h); exact h)
  have L3 := Lib.hid (show MS _ _ _ ((w.heap.size + 1 + 1, #[.int .i64 Rc, .int .i64 Cc, .slice C nc cc]) :: _) (((w.alloc (.cells #[.int .i64 (r : Int), .int .i64 (s : Int), .slice A (r * s) ca] 27)).alloc (.cells #[.int .i64 (s : Int), .int .i64 (t : Int), .slice B (s * t) cb] 27)).alloc (.cells #[.int .i64 Rc, .int .i64 Cc, .slice C nc cc] 27)) from by have h := L2.out.put #[.int .i64 Rc, .int .i64 Cc, .slice C nc cc]; (try simp only [World.size_alloc] at h); exact h)
  obtain ⟨a4, b4, d4⟩ := L3.out.cells (.tail _ (.tail _ (.head _)))
  go_wp2_with fail
  clear a4 b4 d4
  have H1 := L3
  clear L1 L2 L3
  generalize (((w.alloc (.cells #[.int .i64 (r : Int), .int .i64 (s : Int), .slice A (r * s) ca] 27)).alloc (.cells #[.int .i64 (s : Int), .int .i64 (t : Int), .slice B (s * t) cb] 27)).alloc (.cells #[.int .i64 Rc, .int .i64 Cc, .slice C nc cc] 27)) = w1 at *
  refine (smallR H1.out 8 (by decide) (v := true) HSa.out).mono ?_
  rintro e w2 ⟨rfl, h⟩
  have H2 := Lib.hid h
  clear h
  obtain ⟨a5, b5, d5⟩ := H2.out.cells (.tail _ (.head _))
  go_wp2_with fail
  clear a5 b5 d5
  refine (smallR H2.out 8 (by decide) (v := true) HSb.out).mono ?_
  rintro e w3 ⟨rfl, h⟩
  have H3 := Lib.hid h
  clear h
  obtain ⟨a6, b6, d6⟩ := H3.out.cells (.head _)
  go_wp2_with fail
  clear a6 b6 d6
  refine (smallR H3.out 8 (by decide) (v := true) HSc.out).mono ?_
  rintro e w4 ⟨rfl, h⟩
  have H4 := Lib.hid h
  clear h
  go_wp2_with fail
  refine (newR H4.out).mono ?_
  rintro e w5 ⟨rfl, h⟩
  have H5 := Lib.hid h
  clear h
  obtain ⟨a7, b7, d7⟩ := H5.out.cells (.tail _ (.tail _ (.head _)))
  obtain ⟨a8, b8, d8⟩ := H5.out.cells (.tail _ (.head _))
  go_wp2_with fail
  clear a7 b7 d7 a8 b8 d8
  refine (mulR H5.out (r := r) (c := s) (d := t) (.tail _ (.tail _ (.head _))) (.tail _ (.head _)) rfl rfl ⟨rfl, rfl, rfl, rfl⟩ (by have := HD.out; omega) rfl rfl r t (r * t) ⟨rfl, rfl, rfl⟩ rfl).mono ?_
  rintro e w6 ⟨A6, c6, rfl, h⟩
  have H6 := Lib.hid h
  clear h
  have L9 := Lib.hid (show MS _ _ _ ((w6.heap.size, #[.int .i64 (r : Int), .int .i64 (t : Int), .slice A6 (r * t) c6]) :: _) (w6.alloc (.cells #[.int .i64 (r : Int), .int .i64 (t : Int), .slice A6 (r * t) c6] 27)) from by have h := H6.out.put #[.int .i64 (r : Int), .int .i64 (t : Int), .slice A6 (r * t) c6]; (try simp only [World.size_alloc] at h); exact h)
  obtain ⟨a10, b10, d10⟩ := L9.out.cells (.tail _ (.tail _ (.head _)))
  obtain ⟨a11, b11, d11⟩ := L9.out.cells (.tail _ (.head _))
  go_wp2_with fail
  clear a10 b10 d10 a11 b11 d11
  have H7 := L9
  clear L9
  generalize (w6.alloc (.cells #[.int .i64 (r : Int), .int .i64 (t : Int), .slice A6 (r * t) c6] 27)) = w7 at *
  refine (mul0R H7.out HM1.out).mono ?_
  rintro e w8 ⟨rfl, h⟩
  have H8 := Lib.hid h
  clear h
  have L12 := Lib.hid (show MS _ _ _ ((w8.heap.size, #[.int .i64 0, .int .i64 0, .slice none 0 0]) :: _) (w8.alloc (.cells #[.int .i64 0, .int .i64 0, .slice none 0 0] 27)) from by have h := H8.out.put #[.int .i64 0, .int .i64 0, .slice none 0 0]; (try simp only [World.size_alloc] at h); exact h)
  go_wp2_with fail
  have H9 := L12
  clear L12
  generalize (w8.alloc (.cells #[.int .i64 0, .int .i64 0, .slice none 0 0] 27)) = w9 at *
  refine (works_any _).mono ?_
  rintro e w10 ⟨rfl, hb⟩
  have H10 := Lib.hid (MS.keep H9.out hb)
  clear hb
  go_wp2_with fail
  go_ret
  exact ⟨rfl, H10.out.below⟩
set_option maxRecDepth 100000 in
set_option maxHeartbeats 4000000 in
theorem products_ok (w : World) (r s t u : Nat) (hd : r ≤ 8 ∧ s ≤ 8 ∧ t ≤ 8 ∧ u ≤ 8) (A : Option Addr) (ca : Nat) (ma : M) (hA : Bytes w w.heap.size A (flat r s ma)) (hca : (flat r s ma).length ≤ ca) (B : Option Addr) (cb : Nat) (mb : M) (hB : Bytes w w.heap.size B (flat s t mb)) (hcb : (flat s t mb).length ≤ cb) (C : Option Addr) (cc : Nat) (mc : M) (hC : Bytes w w.heap.size C (flat t u mc)) (hcc : (flat t u mc).length ≤ cc)  :
    Calls Try.prog 7 #[.agg #[.int .i64 (r : Int), .int .i64 (s : Int), .slice A (r * s) ca], .agg #[.int .i64 (s : Int), .int .i64 (t : Int), .slice B (s * t) cb], .agg #[.int .i64 (t : Int), .int .i64 (u : Int), .slice C (t * u) cc]] w fun e w' => e = .returned (.bool true) ∧ Below w.heap.size w w' := by
  have H0 := Lib.hid ((((MS.start w).arg hA hca).arg hB hcb).arg hC hcc)
  have HSa := Lib.hid (small8 (r := r) (s := s) (by omega) (by omega))
  have HSb := Lib.hid (small8 (r := s) (s := t) (by omega) (by omega))
  have HSc := Lib.hid (small8 (r := t) (s := u) (by omega) (by omega))
  have HD := Lib.hid hd
  clear hA hca hB hcb hC hcc hd
  go_enter Try.func7, Try.ntmps7
  have L1 := Lib.hid (show MS _ _ _ ((w.heap.size, #[.int .i64 (r : Int), .int .i64 (s : Int), .slice A (r * s) ca]) :: _) (w.alloc (.cells #[.int .i64 (r : Int), .int .i64 (s : Int), .slice A (r * s) ca] 27)) from by have h := H0.out.put #[.int .i64 (r : Int), .int .i64 (s : Int), .slice A (r * s) ca]; (try simp only [World.size_alloc] at h); exact h)
  have L2 := Lib.hid (show MS _ _ _ ((w.heap.size + 1, #[.int .i64 (s : Int), .int .i64 (t : Int), .slice B (s * t) cb]) :: _) ((w.alloc (.cells #[.int .i64 (r : Int), .int .i64 (s : Int), .slice A (r * s) ca] 27)).alloc (.cells #[.int .i64 (s : Int), .int .i64 (t : Int), .slice B (s * t) cb] 27)) from by have h := L1.out.put #[.int .i64 (s : Int), .int .i64 (t : Int), .slice B (s * t) cb]; (try simp only [World.size_alloc] at h); exact h)
  have L3 := Lib.hid (show MS _ _ _ ((w.heap.size + 1 + 1, #[.int .i64 (t : Int), .int .i64 (u : Int), .slice C (t * u) cc]) :: _) (((w.alloc (.cells #[.int .i64 (r : Int), .int .i64 (s : Int), .slice A (r * s) ca] 27)).alloc (.cells #[.int .i64 (s : Int), .int .i64 (t : Int), .slice B (s * t) cb] 27)).alloc (.cells #[.int .i64 (t : Int), .int .i64 (u : Int), .slice C (t * u) cc] 27)) from by have h := L2.out.put #[.int .i64 (t : Int), .int .i64 (u : Int), .slice C (t * u) cc]; (try simp only [World.size_alloc] at h); exact h)
  obtain ⟨a4, b4, d4⟩ := L3.out.cells (.tail _ (.tail _ (.head _)))
  go_wp2_with fail
  clear a4 b4 d4
  have H1 := L3
  clear L1 L2 L3
  generalize (((w.alloc (.cells #[.int .i64 (r : Int), .int .i64 (s : Int), .slice A (r * s) ca] 27)).alloc (.cells #[.int .i64 (s : Int), .int .i64 (t : Int), .slice B (s * t) cb] 27)).alloc (.cells #[.int .i64 (t : Int), .int .i64 (u : Int), .slice C (t * u) cc] 27)) = w1 at *
  refine (smallR H1.out 8 (by decide) (v := true) HSa.out).mono ?_
  rintro e w2 ⟨rfl, h⟩
  have H2 := Lib.hid h
  clear h
  obtain ⟨a5, b5, d5⟩ := H2.out.cells (.tail _ (.head _))
  go_wp2_with fail
  clear a5 b5 d5
  refine (smallR H2.out 8 (by decide) (v := true) HSb.out).mono ?_
  rintro e w3 ⟨rfl, h⟩
  have H3 := Lib.hid h
  clear h
  obtain ⟨a6, b6, d6⟩ := H3.out.cells (.head _)
  go_wp2_with fail
  clear a6 b6 d6
  refine (smallR H3.out 8 (by decide) (v := true) HSc.out).mono ?_
  rintro e w4 ⟨rfl, h⟩
  have H4 := Lib.hid h
  clear h
  go_wp2_with fail
  refine (newR H4.out).mono ?_
  rintro e w5 ⟨rfl, h⟩
  have H5 := Lib.hid h
  clear h
  obtain ⟨a7, b7, d7⟩ := H5.out.cells (.tail _ (.tail _ (.head _)))
  obtain ⟨a8, b8, d8⟩ := H5.out.cells (.tail _ (.head _))
  go_wp2_with fail
  clear a7 b7 d7 a8 b8 d8
  refine (mulR H5.out (r := r) (c := s) (d := t) (.tail _ (.tail _ (.head _))) (.tail _ (.head _)) rfl rfl ⟨rfl, rfl, rfl, rfl⟩ (by have := HD.out; omega) rfl rfl r t (r * t) ⟨rfl, rfl, rfl⟩ (l := _) (rfl)).mono ?_
  rintro e w6 ⟨A6, c6, rfl, h⟩
  have H6 := Lib.hid h
  clear h
  have L9 := Lib.hid (show MS _ _ _ ((w6.heap.size, #[.int .i64 (r : Int), .int .i64 (t : Int), .slice A6 (r * t) c6]) :: _) (w6.alloc (.cells #[.int .i64 (r : Int), .int .i64 (t : Int), .slice A6 (r * t) c6] 27)) from by have h := H6.out.put #[.int .i64 (r : Int), .int .i64 (t : Int), .slice A6 (r * t) c6]; (try simp only [World.size_alloc] at h); exact h)
  obtain ⟨a10, b10, d10⟩ := L9.out.cells (.tail _ (.tail _ (.head _)))
  obtain ⟨a11, b11, d11⟩ := L9.out.cells (.tail _ (.head _))
  go_wp2_with fail
  clear a10 b10 d10 a11 b11 d11
  have H7 := L9
  clear L9
  generalize (w6.alloc (.cells #[.int .i64 (r : Int), .int .i64 (t : Int), .slice A6 (r * t) c6] 27)) = w7 at *
  refine (mulR H7.out (r := s) (c := t) (d := u) (.tail _ (.tail _ (.head _))) (.tail _ (.head _)) rfl rfl ⟨rfl, rfl, rfl, rfl⟩ (by have := HD.out; omega) rfl rfl s u (s * u) ⟨rfl, rfl, rfl⟩ (l := _) (rfl)).mono ?_
  rintro e w8 ⟨A8, c8, rfl, h⟩
  have H8 := Lib.hid h
  clear h
  have L12 := Lib.hid (show MS _ _ _ ((w8.heap.size, #[.int .i64 (s : Int), .int .i64 (u : Int), .slice A8 (s * u) c8]) :: _) (w8.alloc (.cells #[.int .i64 (s : Int), .int .i64 (u : Int), .slice A8 (s * u) c8] 27)) from by have h := H8.out.put #[.int .i64 (s : Int), .int .i64 (u : Int), .slice A8 (s * u) c8]; (try simp only [World.size_alloc] at h); exact h)
  obtain ⟨a13, b13, d13⟩ := L12.out.cells (.tail _ (.head _))
  obtain ⟨a14, b14, d14⟩ := L12.out.cells (.tail _ (.tail _ (.head _)))
  go_wp2_with fail
  clear a13 b13 d13 a14 b14 d14
  have H9 := L12
  clear L12
  generalize (w8.alloc (.cells #[.int .i64 (s : Int), .int .i64 (u : Int), .slice A8 (s * u) c8] 27)) = w9 at *
  refine (mulR H9.out (r := r) (c := t) (d := u) (.tail _ (.head _)) (.tail _ (.tail _ (.head _))) rfl rfl ⟨rfl, rfl, rfl, rfl⟩ (by have := HD.out; omega) rfl rfl r u (r * u) ⟨rfl, rfl, rfl⟩ (l := flat r u (mulM s ma (mulM t mb mc))) (flat_congr fun i _ k _ => mulM_assoc s t ma mb mc i k)).mono ?_
  rintro e w10 ⟨A10, c10, rfl, h⟩
  have H10 := Lib.hid h
  clear h
  have L15 := Lib.hid (show MS _ _ _ ((w10.heap.size, #[.int .i64 (r : Int), .int .i64 (u : Int), .slice A10 (r * u) c10]) :: _) (w10.alloc (.cells #[.int .i64 (r : Int), .int .i64 (u : Int), .slice A10 (r * u) c10] 27)) from by have h := H10.out.put #[.int .i64 (r : Int), .int .i64 (u : Int), .slice A10 (r * u) c10]; (try simp only [World.size_alloc] at h); exact h)
  obtain ⟨a16, b16, d16⟩ := L15.out.cells (.tail _ (.tail _ (.tail _ (.tail _ (.tail _ (.head _))))))
  obtain ⟨a17, b17, d17⟩ := L15.out.cells (.tail _ (.head _))
  go_wp2_with fail
  clear a16 b16 d16 a17 b17 d17
  have H11 := L15
  clear L15
  generalize (w10.alloc (.cells #[.int .i64 (r : Int), .int .i64 (u : Int), .slice A10 (r * u) c10] 27)) = w11 at *
  refine (mulR H11.out (r := r) (c := s) (d := u) (.tail _ (.tail _ (.tail _ (.tail _ (.tail _ (.head _)))))) (.tail _ (.head _)) rfl rfl ⟨rfl, rfl, rfl, rfl⟩ (by have := HD.out; omega) rfl rfl r u (r * u) ⟨rfl, rfl, rfl⟩ (l := _) (rfl)).mono ?_
  rintro e w12 ⟨A12, c12, rfl, h⟩
  have H12 := Lib.hid h
  clear h
  have L18 := Lib.hid (show MS _ _ _ ((w12.heap.size, #[.int .i64 (r : Int), .int .i64 (u : Int), .slice A12 (r * u) c12]) :: _) (w12.alloc (.cells #[.int .i64 (r : Int), .int .i64 (u : Int), .slice A12 (r * u) c12] 27)) from by have h := H12.out.put #[.int .i64 (r : Int), .int .i64 (u : Int), .slice A12 (r * u) c12]; (try simp only [World.size_alloc] at h); exact h)
  go_wp2_with fail
  have H13 := L18
  clear L18
  generalize (w12.alloc (.cells #[.int .i64 (r : Int), .int .i64 (u : Int), .slice A12 (r * u) c12] 27)) = w13 at *
  refine wp_region_noPanic ?_
  refine wp_heldG (fun w' => w'.cell? ⟨w.heap.size, 0, none⟩ = some (.int .i64 (r : Int)) ∧ w'.cell? ⟨w.heap.size, 1, none⟩ = some (.int .i64 (s : Int)) ∧ w'.cell? ⟨w.heap.size, 2, none⟩ = some (.slice A (r * s) ca)) [10] (by kernel_rfl) ?hs0 ?rg0
  case hs0 =>
    have h := H13.out.keep (nextN (Mem.start w13) 1)
    exact h.cells (.tail _ (.tail _ (.tail _ (.tail _ (.tail _ (.tail _ (.head _)))))))
  case rg0 =>
  intro hHeld
  have HD13 := Lib.hid (show MS _ _ _ _ w13.drew from H13.out.keep (nextN (Mem.start w13) 1))
  generalize w13.drew = wd13 at *
  refine wpAnyG_pure (i := 0) (oi := { dst := some 79, op := Op.move (Operand.tmp 7), type := 24, pos := _, after := #[], guard := none }) (v := ?_) rfl (by kernel_rfl) (by kernel_rfl) (by kernel_rfl) (by kernel_rfl) (fun _ _ _ h => h) (Or.inl ⟨by rfl, ?_⟩) (fun _ => by assumption) ?_
  rotate_left
  · intro w hSw
    try dsimp only at hSw
    go_simp
    try with_reducible rfl
  try simp only [Act.put, List.setIfInBounds_toArray, List.set_cons_zero, List.set_cons_succ]
  refine wpAnyG_pure (i := 1) (oi := { dst := some 80, op := Op.fieldAddr 27 (Operand.tmp 3) 0, type := 0, pos := _, after := #[], guard := none }) (v := ?_) rfl (by kernel_rfl) (by kernel_rfl) (by kernel_rfl) (by kernel_rfl) (fun _ _ _ h => h) (Or.inl ⟨by rfl, ?_⟩) (fun _ => by assumption) ?_
  rotate_left
  · intro w hSw
    try dsimp only at hSw
    go_simp
    try with_reducible rfl
  try simp only [Act.put, List.setIfInBounds_toArray, List.set_cons_zero, List.set_cons_succ]
  refine wpAnyG_take (i := 2) (oi := { dst := some 81, op := Op.load 3 (Operand.tmp 80), type := 3, pos := _, after := #[{ on := 1, ground := Ground.data }], guard := none }) (v := ?_) rfl (by kernel_rfl) (by kernel_rfl) (by kernel_rfl) (by kernel_rfl) (fun _ _ _ h => h) (Or.inl ⟨by rfl, ?_⟩) (by assumption) ?_
  rotate_left
  · intro w hSw
    try dsimp only at hSw
    obtain ⟨k0, k1, k2⟩ := hSw
    go_simp
    try with_reducible rfl
  try simp only [Act.put, List.setIfInBounds_toArray, List.set_cons_zero, List.set_cons_succ]
  refine wpAnyG_take (i := 4) (oi := { dst := some 83, op := Op.load 27 (Operand.tmp 3), type := 27, pos := _, after := #[], guard := none }) (v := ?_) rfl (by kernel_rfl) (by kernel_rfl) (by kernel_rfl) (by kernel_rfl) (fun _ _ _ h => h) (Or.inl ⟨by rfl, ?_⟩) (by assumption) ?_
  rotate_left
  · intro w hSw
    try dsimp only at hSw
    obtain ⟨k0, k1, k2⟩ := hSw
    go_simp
    try with_reducible rfl
  try simp only [Act.put, List.setIfInBounds_toArray, List.set_cons_zero, List.set_cons_succ]
  refine wpAnyG_two (i := 3) (j := 9) (o := { dst := some 82, op := Op.call { callee := Callee.value (Operand.func 27), args := #[Operand.tmp 81], argTypes := #[3] }, type := 27, pos := _, after := #[{ on := 2, ground := Ground.data }], guard := none }) (u := { dst := some 16, op := Op.alloc 27, type := 0, pos := _, after := #[], guard := none }) (by kernel_rfl) rfl rfl (fun K hK => ?_) (fun K hK => ?_)
  · skip
    go_simp
    refine (oneR HD13.out (r := r) rfl (by have := HD.out; omega) (r * r) rfl rfl).mono ?_
    rintro e w14 ⟨A14, c14, rfl, h⟩
    have H14 := Lib.hid h
    clear h
    try dsimp only
    refine hK.out _ _ ?_ (fun hHeld => ?_)
    · intro _
      try dsimp only
      have h := H14.out
      exact h.cells (.tail _ (.tail _ (.tail _ (.tail _ (.tail _ (.tail _ (.head _)))))))
    clear hK K
    try simp only [Act.put, List.setIfInBounds_toArray, List.set_cons_zero, List.set_cons_succ]
    have hHeld := hHeld (by kernel_rfl)
    refine wpAnyG_two (i := 5) (j := 9) (o := { dst := some 84, op := Op.call { callee := Callee.value (Operand.func 18), args := #[Operand.tmp 79, Operand.tmp 82, Operand.tmp 83], argTypes := #[24, 27, 27] }, type := 32, pos := _, after := #[{ on := 0, ground := Ground.data }, { on := 3, ground := Ground.data }, { on := 4, ground := Ground.data }, { on := 3, ground := Ground.chain }], guard := none }) (u := { dst := some 16, op := Op.alloc 27, type := 0, pos := _, after := #[], guard := none }) (by kernel_rfl) rfl rfl (fun K hK => ?_) (fun K hK => ?_)
    · skip
      go_simp
      refine (mulR H14.out (r := r) (c := r) (d := s) (.head _) (.tail _ (.tail _ (.tail _ (.tail _ (.tail _ (.tail _ (.tail _ (.head _)))))))) rfl rfl ⟨rfl, rfl, rfl, rfl⟩ (by have := HD.out; omega) rfl rfl r s (r * s) ⟨rfl, rfl, rfl⟩ (l := flat r s ma) (flat_congr fun i hi k _ => id_mulM ma hi k)).mono ?_
      rintro e w15 ⟨A15, c15, rfl, h⟩
      have H15 := Lib.hid h
      clear h
      try dsimp only
      refine hK.out _ _ ?_ (fun hHeld => ?_)
      · intro _
        try dsimp only
        have h := H15.out
        exact h.cells (.tail _ (.tail _ (.tail _ (.tail _ (.tail _ (.tail _ (.head _)))))))
      clear hK K
      try simp only [Act.put, List.setIfInBounds_toArray, List.set_cons_zero, List.set_cons_succ]
      have hHeld := hHeld (by kernel_rfl)
      refine wpAnyG_pure (i := 6) (oi := { dst := some 78, op := Op.move (Operand.tmp 84), type := 32, pos := _, after := #[{ on := 5, ground := Ground.data }], guard := none }) (v := ?_) rfl (by kernel_rfl) (by kernel_rfl) (by kernel_rfl) (by kernel_rfl) (fun _ _ _ h => h) (Or.inl ⟨by rfl, ?_⟩) (fun _ => by assumption) ?_
      rotate_left
      · intro w hSw
        try dsimp only at hSw
        go_simp
        try with_reducible rfl
      try simp only [Act.put, List.setIfInBounds_toArray, List.set_cons_zero, List.set_cons_succ]
      refine wpAnyG_pure (i := 7) (oi := { dst := some 85, op := Op.extract (Operand.tmp 78) 0, type := 27, pos := _, after := #[{ on := 6, ground := Ground.data }], guard := none }) (v := ?_) rfl (by kernel_rfl) (by kernel_rfl) (by kernel_rfl) (by kernel_rfl) (fun _ _ _ h => h) (Or.inl ⟨by rfl, ?_⟩) (fun _ => by assumption) ?_
      rotate_left
      · intro w hSw
        try dsimp only at hSw
        go_simp
        try with_reducible rfl
      try simp only [Act.put, List.setIfInBounds_toArray, List.set_cons_zero, List.set_cons_succ]
      refine wpAnyG_pure (i := 8) (oi := { dst := some 86, op := Op.extract (Operand.tmp 78) 1, type := 29, pos := _, after := #[{ on := 6, ground := Ground.data }, { on := 10, ground := Ground.gcOnly Departure.lateStores }], guard := none }) (v := ?_) rfl (by kernel_rfl) (by kernel_rfl) (by kernel_rfl) (by kernel_rfl) (fun _ _ _ h => h) (Or.inl ⟨by rfl, ?_⟩) (fun _ => by assumption) ?_
      rotate_left
      · intro w hSw
        try dsimp only at hSw
        go_simp
        try with_reducible rfl
      try simp only [Act.put, List.setIfInBounds_toArray, List.set_cons_zero, List.set_cons_succ]
      refine wpAnyG_one (i := 9) (o := { dst := some 16, op := Op.alloc 27, type := 0, pos := _, after := #[], guard := none }) (by kernel_rfl) rfl (fun K hK => ?_)
      refine step_new (P := Try.prog) _ ⟨rfl, rfl, rfl⟩ newMx ?_
      have H16 := Lib.hid (H15.out.put #[.int .i64 0, .int .i64 0, .slice none 0 0])
      have HB16 := Lib.hid (And.intro H15.out.below.size H15.out.far)
      obtain ⟨g16, hg16⟩ : ∃ x, w15.heap.size = x := ⟨_, rfl⟩
      rw [hg16] at H16 HB16 ⊢
      clear hg16
      generalize w15.alloc (.cells #[.int .i64 0, .int .i64 0, .slice none 0 0] 27) = w16 at *
      try dsimp only
      refine hK.out _ _ ?_ (fun hHeld => ?_)
      · intro _
        try dsimp only
        have h := H16.out
        exact h.cells (.tail _ (.tail _ (.tail _ (.tail _ (.tail _ (.tail _ (.tail _ (.head _))))))))
      clear hK K
      try simp only [Act.put, List.setIfInBounds_toArray, List.set_cons_zero, List.set_cons_succ]
      have hHeld := hHeld (by kernel_rfl)
      refine wpAnyG_one (i := 10) (o := { dst := none, op := Op.store 27 (Operand.tmp 16) (Operand.tmp 85), type := 0, pos := _, after := #[{ on := 9, ground := Ground.data }, { on := 7, ground := Ground.data }, { on := 5, ground := Ground.chain }, { on := 0, ground := Ground.phase }, { on := 1, ground := Ground.phase }, { on := 2, ground := Ground.phase }, { on := 3, ground := Ground.phase }, { on := 4, ground := Ground.phase }, { on := 5, ground := Ground.phase }, { on := 6, ground := Ground.phase }, { on := 7, ground := Ground.phase }, { on := 8, ground := Ground.textOnly Departure.lateStores }, { on := 9, ground := Ground.phase }], guard := none }) (by kernel_rfl) rfl (fun K hK => ?_)
      obtain ⟨⟨z0, z1, z2⟩, f0, f1, f2⟩ := cells3 (H16.out.box _ (.head _)).1
      go_simp
      have H17 := Lib.hid (H16.out.set HB16.out.1 HB16.out.2 (.int .i64 (r : Int)) (.int .i64 (s : Int)) (.slice A15 (r * s) c15))
      clear z0 z1 z2 f0 f1 f2 HB16
      generalize ((w16.setCell ⟨g16, 0, none⟩ (.int .i64 (r : Int))).setCell ⟨g16, 1, none⟩ (.int .i64 (s : Int))).setCell ⟨g16, 2, none⟩ (.slice A15 (r * s) c15) = w17 at *
      try dsimp only
      refine hK.out _ _ ?_ (fun hHeld => ?_)
      · exact fun h => (st_no (by kernel_rfl) h).elim
      clear hK K
      try simp only [Act.put, List.setIfInBounds_toArray, List.set_cons_zero, List.set_cons_succ]
      clear hHeld
      refine wpAnyG_pure (i := 11) (oi := { dst := some 17, op := Op.assign (Operand.tmp 86), type := 29, pos := _, after := #[{ on := 8, ground := Ground.data }, { on := 10, ground := Ground.chain }, { on := 0, ground := Ground.phase }, { on := 1, ground := Ground.phase }, { on := 2, ground := Ground.phase }, { on := 3, ground := Ground.phase }, { on := 4, ground := Ground.phase }, { on := 5, ground := Ground.phase }, { on := 6, ground := Ground.phase }, { on := 7, ground := Ground.phase }, { on := 8, ground := Ground.phase }, { on := 9, ground := Ground.phase }, { on := 10, ground := Ground.phase }], guard := none }) (v := ?_) rfl (by kernel_rfl) (by kernel_rfl) (by kernel_rfl) (by kernel_rfl) (fun _ _ _ h => h) (Or.inl ⟨by rfl, ?_⟩) (fun h => (st_no (by kernel_rfl) h).elim) ?_
      rotate_left
      · intro w hSw
        try dsimp only at hSw
        go_simp
        try with_reducible rfl
      try simp only [Act.put, List.setIfInBounds_toArray, List.set_cons_zero, List.set_cons_succ]
      refine wpAnyG_done (by kernel_rfl) ?_ _
      refine NoPanic.normal ?_
      obtain ⟨a19, b19, d19⟩ := H17.out.cells (.tail _ (.tail _ (.tail _ (.tail _ (.tail _ (.tail _ (.tail _ (.head _))))))))
      go_wp2_with fail
      clear a19 b19 d19
      refine (turnR H17.out (r := r) (c := s) (.tail _ (.tail _ (.tail _ (.tail _ (.tail _ (.tail _ (.tail _ (.tail _ (.head _))))))))) rfl ⟨rfl, rfl⟩ (by have := HD.out; omega) rfl s r (s * r) ⟨rfl, rfl, rfl⟩ (l := _) (rfl)).mono ?_
      rintro e w18 ⟨A18, c18, rfl, h⟩
      have H18 := Lib.hid h
      clear h
      have L20 := Lib.hid (show MS _ _ _ ((w18.heap.size, #[.int .i64 (s : Int), .int .i64 (r : Int), .slice A18 (s * r) c18]) :: _) (w18.alloc (.cells #[.int .i64 (s : Int), .int .i64 (r : Int), .slice A18 (s * r) c18] 27)) from by have h := H18.out.put #[.int .i64 (s : Int), .int .i64 (r : Int), .slice A18 (s * r) c18]; (try simp only [World.size_alloc] at h); exact h)
      obtain ⟨a21, b21, d21⟩ := L20.out.cells (.tail _ (.tail _ (.tail _ (.tail _ (.tail _ (.tail _ (.tail _ (.head _))))))))
      go_wp2_with fail
      clear a21 b21 d21
      have H19 := L20
      clear L20
      generalize (w18.alloc (.cells #[.int .i64 (s : Int), .int .i64 (r : Int), .slice A18 (s * r) c18] 27)) = w19 at *
      refine (turnR H19.out (r := s) (c := t) (.tail _ (.tail _ (.tail _ (.tail _ (.tail _ (.tail _ (.tail _ (.tail _ (.head _))))))))) rfl ⟨rfl, rfl⟩ (by have := HD.out; omega) rfl t s (t * s) ⟨rfl, rfl, rfl⟩ (l := _) (rfl)).mono ?_
      rintro e w20 ⟨A20, c20, rfl, h⟩
      have H20 := Lib.hid h
      clear h
      have L22 := Lib.hid (show MS _ _ _ ((w20.heap.size, #[.int .i64 (t : Int), .int .i64 (s : Int), .slice A20 (t * s) c20]) :: _) (w20.alloc (.cells #[.int .i64 (t : Int), .int .i64 (s : Int), .slice A20 (t * s) c20] 27)) from by have h := H20.out.put #[.int .i64 (t : Int), .int .i64 (s : Int), .slice A20 (t * s) c20]; (try simp only [World.size_alloc] at h); exact h)
      obtain ⟨a23, b23, d23⟩ := L22.out.cells (.tail _ (.tail _ (.tail _ (.tail _ (.tail _ (.tail _ (.head _)))))))
      go_wp2_with fail
      clear a23 b23 d23
      have H21 := L22
      clear L22
      generalize (w20.alloc (.cells #[.int .i64 (t : Int), .int .i64 (s : Int), .slice A20 (t * s) c20] 27)) = w21 at *
      refine (turnR H21.out (r := r) (c := t) (.tail _ (.tail _ (.tail _ (.tail _ (.tail _ (.tail _ (.tail _ (.head _)))))))) rfl ⟨rfl, rfl⟩ (by have := HD.out; omega) rfl t r (t * r) ⟨rfl, rfl, rfl⟩ (l := _) (rfl)).mono ?_
      rintro e w22 ⟨A22, c22, rfl, h⟩
      have H22 := Lib.hid h
      clear h
      have L24 := Lib.hid (show MS _ _ _ ((w22.heap.size, #[.int .i64 (t : Int), .int .i64 (r : Int), .slice A22 (t * r) c22]) :: _) (w22.alloc (.cells #[.int .i64 (t : Int), .int .i64 (r : Int), .slice A22 (t * r) c22] 27)) from by have h := H22.out.put #[.int .i64 (t : Int), .int .i64 (r : Int), .slice A22 (t * r) c22]; (try simp only [World.size_alloc] at h); exact h)
      obtain ⟨a25, b25, d25⟩ := L24.out.cells (.tail _ (.head _))
      obtain ⟨a26, b26, d26⟩ := L24.out.cells (.tail _ (.tail _ (.head _)))
      go_wp2_with fail
      clear a25 b25 d25 a26 b26 d26
      have H23 := L24
      clear L24
      generalize (w22.alloc (.cells #[.int .i64 (t : Int), .int .i64 (r : Int), .slice A22 (t * r) c22] 27)) = w23 at *
      refine (mulR H23.out (r := t) (c := s) (d := r) (.tail _ (.head _)) (.tail _ (.tail _ (.head _))) rfl rfl ⟨rfl, rfl, rfl, rfl⟩ (by have := HD.out; omega) rfl rfl t r (t * r) ⟨rfl, rfl, rfl⟩ (l := flat t r (fun x y => mulM s ma mb y x)) (flat_congr fun i _ k _ => (mulM_turn s ma mb i k).symm)).mono ?_
      rintro e w24 ⟨A24, c24, rfl, h⟩
      have H24 := Lib.hid h
      clear h
      have L27 := Lib.hid (show MS _ _ _ ((w24.heap.size, #[.int .i64 (t : Int), .int .i64 (r : Int), .slice A24 (t * r) c24]) :: _) (w24.alloc (.cells #[.int .i64 (t : Int), .int .i64 (r : Int), .slice A24 (t * r) c24] 27)) from by have h := H24.out.put #[.int .i64 (t : Int), .int .i64 (r : Int), .slice A24 (t * r) c24]; (try simp only [World.size_alloc] at h); exact h)
      obtain ⟨a28, b28, d28⟩ := L27.out.cells (.tail _ (.tail _ (.tail _ (.head _))))
      go_wp2_with fail
      clear a28 b28 d28
      have H25 := L27
      clear L27
      generalize (w24.alloc (.cells #[.int .i64 (t : Int), .int .i64 (r : Int), .slice A24 (t * r) c24] 27)) = w25 at *
      refine (turnR H25.out (r := s) (c := r) (.tail _ (.tail _ (.tail _ (.head _)))) rfl ⟨rfl, rfl⟩ (by have := HD.out; omega) rfl r s (r * s) ⟨rfl, rfl, rfl⟩ (l := flat r s ma) (rfl)).mono ?_
      rintro e w26 ⟨A26, c26, rfl, h⟩
      have H26 := Lib.hid h
      clear h
      have L29 := Lib.hid (show MS _ _ _ ((w26.heap.size, #[.int .i64 (r : Int), .int .i64 (s : Int), .slice A26 (r * s) c26]) :: _) (w26.alloc (.cells #[.int .i64 (r : Int), .int .i64 (s : Int), .slice A26 (r * s) c26] 27)) from by have h := H26.out.put #[.int .i64 (r : Int), .int .i64 (s : Int), .slice A26 (r * s) c26]; (try simp only [World.size_alloc] at h); exact h)
      obtain ⟨a30, b30, d30⟩ := L29.out.cells (.tail _ (.tail _ (.tail _ (.tail _ (.tail _ (.tail _ (.tail _ (.head _))))))))
      obtain ⟨a31, b31, d31⟩ := L29.out.cells (.tail _ (.tail _ (.tail _ (.tail _ (.tail _ (.tail _ (.head _)))))))
      go_wp2_with fail
      clear a30 b30 d30 a31 b31 d31
      have H27 := L29
      clear L29
      generalize (w26.alloc (.cells #[.int .i64 (r : Int), .int .i64 (s : Int), .slice A26 (r * s) c26] 27)) = w27 at *
      refine (sameR H27.out (.tail _ (.tail _ (.tail _ (.tail _ (.tail _ (.tail _ (.tail _ (.tail _ (.head _))))))))) (flat_len _ _ _) (.tail _ (.tail _ (.tail _ (.tail _ (.tail _ (.tail _ (.tail _ (.head _)))))))) (flat_len _ _ _) (v := true) (sameB_self _ _ _)).mono ?_
      rintro e w28 ⟨rfl, h⟩
      have H28 := Lib.hid h
      clear h
      obtain ⟨a32, b32, d32⟩ := H28.out.cells (.tail _ (.tail _ (.tail _ (.tail _ (.tail _ (.head _))))))
      obtain ⟨a33, b33, d33⟩ := H28.out.cells (.tail _ (.tail _ (.tail _ (.tail _ (.tail _ (.tail _ (.tail _ (.tail _ (.tail _ (.tail _ (.tail _ (.tail _ (.head _)))))))))))))
      go_wp2_with fail
      clear a32 b32 d32 a33 b33 d33
      refine (sameR H28.out (.tail _ (.tail _ (.tail _ (.tail _ (.tail _ (.head _)))))) (flat_len _ _ _) (.tail _ (.tail _ (.tail _ (.tail _ (.tail _ (.tail _ (.tail _ (.tail _ (.tail _ (.tail _ (.tail _ (.tail _ (.tail _ (.head _)))))))))))))) (flat_len _ _ _) (v := true) (sameB_self _ _ _)).mono ?_
      rintro e w29 ⟨rfl, h⟩
      have H29 := Lib.hid h
      clear h
      obtain ⟨a34, b34, d34⟩ := H29.out.cells (.tail _ (.head _))
      obtain ⟨a35, b35, d35⟩ := H29.out.cells (.tail _ (.tail _ (.head _)))
      go_wp2_with fail
      clear a34 b34 d34 a35 b35 d35
      refine (sameR H29.out (.tail _ (.head _)) (flat_len _ _ _) (.tail _ (.tail _ (.head _))) (flat_len _ _ _) (v := true) (sameB_self _ _ _)).mono ?_
      rintro e w30 ⟨rfl, h⟩
      have H30 := Lib.hid h
      clear h
      obtain ⟨a36, b36, d36⟩ := H30.out.cells (.head _)
      obtain ⟨a37, b37, d37⟩ := H30.out.cells (.tail _ (.tail _ (.tail _ (.tail _ (.tail _ (.tail _ (.tail _ (.tail _ (.tail _ (.tail _ (.tail _ (.tail _ (.head _)))))))))))))
      go_wp2_with fail
      clear a36 b36 d36 a37 b37 d37
      refine (sameR H30.out (.head _) (flat_len _ _ _) (.tail _ (.tail _ (.tail _ (.tail _ (.tail _ (.tail _ (.tail _ (.tail _ (.tail _ (.tail _ (.tail _ (.tail _ (.tail _ (.head _)))))))))))))) (flat_len _ _ _) (v := true) (sameB_self _ _ _)).mono ?_
      rintro e w31 ⟨rfl, h⟩
      have H31 := Lib.hid h
      clear h
      go_wp2_with fail
      refine (works_any _).mono ?_
      rintro e w32 ⟨rfl, hb⟩
      have H32 := Lib.hid (MS.keep H31.out hb)
      clear hb
      go_wp2_with fail
      go_ret
      exact ⟨rfl, H32.out.below⟩
    · skip
      refine step_new (P := Try.prog) _ ⟨rfl, rfl, rfl⟩ newMx ?_
      have H15 := Lib.hid (H14.out.put #[.int .i64 0, .int .i64 0, .slice none 0 0])
      have HB15 := Lib.hid (And.intro H14.out.below.size H14.out.far)
      obtain ⟨g15, hg15⟩ : ∃ x, w14.heap.size = x := ⟨_, rfl⟩
      rw [hg15] at H15 HB15 ⊢
      clear hg15
      generalize w14.alloc (.cells #[.int .i64 0, .int .i64 0, .slice none 0 0] 27) = w15 at *
      try dsimp only
      refine hK.out _ _ ?_ (fun hHeld => ?_)
      · intro _
        try dsimp only
        have h := H15.out
        exact h.cells (.tail _ (.tail _ (.tail _ (.tail _ (.tail _ (.tail _ (.tail _ (.head _))))))))
      clear hK K
      try simp only [Act.put, List.setIfInBounds_toArray, List.set_cons_zero, List.set_cons_succ]
      have hHeld := hHeld (by kernel_rfl)
      refine wpAnyG_one (i := 5) (o := { dst := some 84, op := Op.call { callee := Callee.value (Operand.func 18), args := #[Operand.tmp 79, Operand.tmp 82, Operand.tmp 83], argTypes := #[24, 27, 27] }, type := 32, pos := _, after := #[{ on := 0, ground := Ground.data }, { on := 3, ground := Ground.data }, { on := 4, ground := Ground.data }, { on := 3, ground := Ground.chain }], guard := none }) (by kernel_rfl) rfl (fun K hK => ?_)
      go_simp
      refine (mulR H15.out (r := r) (c := r) (d := s) (.head _) (.tail _ (.tail _ (.tail _ (.tail _ (.tail _ (.tail _ (.tail _ (.head _)))))))) rfl rfl ⟨rfl, rfl, rfl, rfl⟩ (by have := HD.out; omega) rfl rfl r s (r * s) ⟨rfl, rfl, rfl⟩ (l := flat r s ma) (flat_congr fun i hi k _ => id_mulM ma hi k)).mono ?_
      rintro e w16 ⟨A16, c16, rfl, h⟩
      have H16 := Lib.hid h
      clear h
      try dsimp only
      refine hK.out _ _ ?_ (fun hHeld => ?_)
      · intro _
        try dsimp only
        have h := H16.out
        exact h.cells (.tail _ (.tail _ (.tail _ (.tail _ (.tail _ (.tail _ (.tail _ (.head _))))))))
      clear hK K
      try simp only [Act.put, List.setIfInBounds_toArray, List.set_cons_zero, List.set_cons_succ]
      have hHeld := hHeld (by kernel_rfl)
      refine wpAnyG_pure (i := 6) (oi := { dst := some 78, op := Op.move (Operand.tmp 84), type := 32, pos := _, after := #[{ on := 5, ground := Ground.data }], guard := none }) (v := ?_) rfl (by kernel_rfl) (by kernel_rfl) (by kernel_rfl) (by kernel_rfl) (fun _ _ _ h => h) (Or.inl ⟨by rfl, ?_⟩) (fun _ => by assumption) ?_
      rotate_left
      · intro w hSw
        try dsimp only at hSw
        go_simp
        try with_reducible rfl
      try simp only [Act.put, List.setIfInBounds_toArray, List.set_cons_zero, List.set_cons_succ]
      refine wpAnyG_pure (i := 7) (oi := { dst := some 85, op := Op.extract (Operand.tmp 78) 0, type := 27, pos := _, after := #[{ on := 6, ground := Ground.data }], guard := none }) (v := ?_) rfl (by kernel_rfl) (by kernel_rfl) (by kernel_rfl) (by kernel_rfl) (fun _ _ _ h => h) (Or.inl ⟨by rfl, ?_⟩) (fun _ => by assumption) ?_
      rotate_left
      · intro w hSw
        try dsimp only at hSw
        go_simp
        try with_reducible rfl
      try simp only [Act.put, List.setIfInBounds_toArray, List.set_cons_zero, List.set_cons_succ]
      refine wpAnyG_pure (i := 8) (oi := { dst := some 86, op := Op.extract (Operand.tmp 78) 1, type := 29, pos := _, after := #[{ on := 6, ground := Ground.data }, { on := 10, ground := Ground.gcOnly Departure.lateStores }], guard := none }) (v := ?_) rfl (by kernel_rfl) (by kernel_rfl) (by kernel_rfl) (by kernel_rfl) (fun _ _ _ h => h) (Or.inl ⟨by rfl, ?_⟩) (fun _ => by assumption) ?_
      rotate_left
      · intro w hSw
        try dsimp only at hSw
        go_simp
        try with_reducible rfl
      try simp only [Act.put, List.setIfInBounds_toArray, List.set_cons_zero, List.set_cons_succ]
      refine wpAnyG_one (i := 10) (o := { dst := none, op := Op.store 27 (Operand.tmp 16) (Operand.tmp 85), type := 0, pos := _, after := #[{ on := 9, ground := Ground.data }, { on := 7, ground := Ground.data }, { on := 5, ground := Ground.chain }, { on := 0, ground := Ground.phase }, { on := 1, ground := Ground.phase }, { on := 2, ground := Ground.phase }, { on := 3, ground := Ground.phase }, { on := 4, ground := Ground.phase }, { on := 5, ground := Ground.phase }, { on := 6, ground := Ground.phase }, { on := 7, ground := Ground.phase }, { on := 8, ground := Ground.textOnly Departure.lateStores }, { on := 9, ground := Ground.phase }], guard := none }) (by kernel_rfl) rfl (fun K hK => ?_)
      obtain ⟨⟨z0, z1, z2⟩, f0, f1, f2⟩ := cells3 (H16.out.box _ (.head _)).1
      go_simp
      have H17 := Lib.hid (H16.out.set HB15.out.1 HB15.out.2 (.int .i64 (r : Int)) (.int .i64 (s : Int)) (.slice A16 (r * s) c16))
      clear z0 z1 z2 f0 f1 f2 HB15
      generalize ((w16.setCell ⟨g15, 0, none⟩ (.int .i64 (r : Int))).setCell ⟨g15, 1, none⟩ (.int .i64 (s : Int))).setCell ⟨g15, 2, none⟩ (.slice A16 (r * s) c16) = w17 at *
      try dsimp only
      refine hK.out _ _ ?_ (fun hHeld => ?_)
      · exact fun h => (st_no (by kernel_rfl) h).elim
      clear hK K
      try simp only [Act.put, List.setIfInBounds_toArray, List.set_cons_zero, List.set_cons_succ]
      clear hHeld
      refine wpAnyG_pure (i := 11) (oi := { dst := some 17, op := Op.assign (Operand.tmp 86), type := 29, pos := _, after := #[{ on := 8, ground := Ground.data }, { on := 10, ground := Ground.chain }, { on := 0, ground := Ground.phase }, { on := 1, ground := Ground.phase }, { on := 2, ground := Ground.phase }, { on := 3, ground := Ground.phase }, { on := 4, ground := Ground.phase }, { on := 5, ground := Ground.phase }, { on := 6, ground := Ground.phase }, { on := 7, ground := Ground.phase }, { on := 8, ground := Ground.phase }, { on := 9, ground := Ground.phase }, { on := 10, ground := Ground.phase }], guard := none }) (v := ?_) rfl (by kernel_rfl) (by kernel_rfl) (by kernel_rfl) (by kernel_rfl) (fun _ _ _ h => h) (Or.inl ⟨by rfl, ?_⟩) (fun h => (st_no (by kernel_rfl) h).elim) ?_
      rotate_left
      · intro w hSw
        try dsimp only at hSw
        go_simp
        try with_reducible rfl
      try simp only [Act.put, List.setIfInBounds_toArray, List.set_cons_zero, List.set_cons_succ]
      refine wpAnyG_done (by kernel_rfl) ?_ _
      refine NoPanic.normal ?_
      obtain ⟨a19, b19, d19⟩ := H17.out.cells (.tail _ (.tail _ (.tail _ (.tail _ (.tail _ (.tail _ (.tail _ (.head _))))))))
      go_wp2_with fail
      clear a19 b19 d19
      refine (turnR H17.out (r := r) (c := s) (.tail _ (.tail _ (.tail _ (.tail _ (.tail _ (.tail _ (.tail _ (.tail _ (.head _))))))))) rfl ⟨rfl, rfl⟩ (by have := HD.out; omega) rfl s r (s * r) ⟨rfl, rfl, rfl⟩ (l := _) (rfl)).mono ?_
      rintro e w18 ⟨A18, c18, rfl, h⟩
      have H18 := Lib.hid h
      clear h
      have L20 := Lib.hid (show MS _ _ _ ((w18.heap.size, #[.int .i64 (s : Int), .int .i64 (r : Int), .slice A18 (s * r) c18]) :: _) (w18.alloc (.cells #[.int .i64 (s : Int), .int .i64 (r : Int), .slice A18 (s * r) c18] 27)) from by have h := H18.out.put #[.int .i64 (s : Int), .int .i64 (r : Int), .slice A18 (s * r) c18]; (try simp only [World.size_alloc] at h); exact h)
      obtain ⟨a21, b21, d21⟩ := L20.out.cells (.tail _ (.tail _ (.tail _ (.tail _ (.tail _ (.tail _ (.tail _ (.head _))))))))
      go_wp2_with fail
      clear a21 b21 d21
      have H19 := L20
      clear L20
      generalize (w18.alloc (.cells #[.int .i64 (s : Int), .int .i64 (r : Int), .slice A18 (s * r) c18] 27)) = w19 at *
      refine (turnR H19.out (r := s) (c := t) (.tail _ (.tail _ (.tail _ (.tail _ (.tail _ (.tail _ (.tail _ (.tail _ (.head _))))))))) rfl ⟨rfl, rfl⟩ (by have := HD.out; omega) rfl t s (t * s) ⟨rfl, rfl, rfl⟩ (l := _) (rfl)).mono ?_
      rintro e w20 ⟨A20, c20, rfl, h⟩
      have H20 := Lib.hid h
      clear h
      have L22 := Lib.hid (show MS _ _ _ ((w20.heap.size, #[.int .i64 (t : Int), .int .i64 (s : Int), .slice A20 (t * s) c20]) :: _) (w20.alloc (.cells #[.int .i64 (t : Int), .int .i64 (s : Int), .slice A20 (t * s) c20] 27)) from by have h := H20.out.put #[.int .i64 (t : Int), .int .i64 (s : Int), .slice A20 (t * s) c20]; (try simp only [World.size_alloc] at h); exact h)
      obtain ⟨a23, b23, d23⟩ := L22.out.cells (.tail _ (.tail _ (.tail _ (.tail _ (.tail _ (.tail _ (.head _)))))))
      go_wp2_with fail
      clear a23 b23 d23
      have H21 := L22
      clear L22
      generalize (w20.alloc (.cells #[.int .i64 (t : Int), .int .i64 (s : Int), .slice A20 (t * s) c20] 27)) = w21 at *
      refine (turnR H21.out (r := r) (c := t) (.tail _ (.tail _ (.tail _ (.tail _ (.tail _ (.tail _ (.tail _ (.head _)))))))) rfl ⟨rfl, rfl⟩ (by have := HD.out; omega) rfl t r (t * r) ⟨rfl, rfl, rfl⟩ (l := _) (rfl)).mono ?_
      rintro e w22 ⟨A22, c22, rfl, h⟩
      have H22 := Lib.hid h
      clear h
      have L24 := Lib.hid (show MS _ _ _ ((w22.heap.size, #[.int .i64 (t : Int), .int .i64 (r : Int), .slice A22 (t * r) c22]) :: _) (w22.alloc (.cells #[.int .i64 (t : Int), .int .i64 (r : Int), .slice A22 (t * r) c22] 27)) from by have h := H22.out.put #[.int .i64 (t : Int), .int .i64 (r : Int), .slice A22 (t * r) c22]; (try simp only [World.size_alloc] at h); exact h)
      obtain ⟨a25, b25, d25⟩ := L24.out.cells (.tail _ (.head _))
      obtain ⟨a26, b26, d26⟩ := L24.out.cells (.tail _ (.tail _ (.head _)))
      go_wp2_with fail
      clear a25 b25 d25 a26 b26 d26
      have H23 := L24
      clear L24
      generalize (w22.alloc (.cells #[.int .i64 (t : Int), .int .i64 (r : Int), .slice A22 (t * r) c22] 27)) = w23 at *
      refine (mulR H23.out (r := t) (c := s) (d := r) (.tail _ (.head _)) (.tail _ (.tail _ (.head _))) rfl rfl ⟨rfl, rfl, rfl, rfl⟩ (by have := HD.out; omega) rfl rfl t r (t * r) ⟨rfl, rfl, rfl⟩ (l := flat t r (fun x y => mulM s ma mb y x)) (flat_congr fun i _ k _ => (mulM_turn s ma mb i k).symm)).mono ?_
      rintro e w24 ⟨A24, c24, rfl, h⟩
      have H24 := Lib.hid h
      clear h
      have L27 := Lib.hid (show MS _ _ _ ((w24.heap.size, #[.int .i64 (t : Int), .int .i64 (r : Int), .slice A24 (t * r) c24]) :: _) (w24.alloc (.cells #[.int .i64 (t : Int), .int .i64 (r : Int), .slice A24 (t * r) c24] 27)) from by have h := H24.out.put #[.int .i64 (t : Int), .int .i64 (r : Int), .slice A24 (t * r) c24]; (try simp only [World.size_alloc] at h); exact h)
      obtain ⟨a28, b28, d28⟩ := L27.out.cells (.tail _ (.tail _ (.tail _ (.head _))))
      go_wp2_with fail
      clear a28 b28 d28
      have H25 := L27
      clear L27
      generalize (w24.alloc (.cells #[.int .i64 (t : Int), .int .i64 (r : Int), .slice A24 (t * r) c24] 27)) = w25 at *
      refine (turnR H25.out (r := s) (c := r) (.tail _ (.tail _ (.tail _ (.head _)))) rfl ⟨rfl, rfl⟩ (by have := HD.out; omega) rfl r s (r * s) ⟨rfl, rfl, rfl⟩ (l := flat r s ma) (rfl)).mono ?_
      rintro e w26 ⟨A26, c26, rfl, h⟩
      have H26 := Lib.hid h
      clear h
      have L29 := Lib.hid (show MS _ _ _ ((w26.heap.size, #[.int .i64 (r : Int), .int .i64 (s : Int), .slice A26 (r * s) c26]) :: _) (w26.alloc (.cells #[.int .i64 (r : Int), .int .i64 (s : Int), .slice A26 (r * s) c26] 27)) from by have h := H26.out.put #[.int .i64 (r : Int), .int .i64 (s : Int), .slice A26 (r * s) c26]; (try simp only [World.size_alloc] at h); exact h)
      obtain ⟨a30, b30, d30⟩ := L29.out.cells (.tail _ (.tail _ (.tail _ (.tail _ (.tail _ (.tail _ (.tail _ (.head _))))))))
      obtain ⟨a31, b31, d31⟩ := L29.out.cells (.tail _ (.tail _ (.tail _ (.tail _ (.tail _ (.tail _ (.head _)))))))
      go_wp2_with fail
      clear a30 b30 d30 a31 b31 d31
      have H27 := L29
      clear L29
      generalize (w26.alloc (.cells #[.int .i64 (r : Int), .int .i64 (s : Int), .slice A26 (r * s) c26] 27)) = w27 at *
      refine (sameR H27.out (.tail _ (.tail _ (.tail _ (.tail _ (.tail _ (.tail _ (.tail _ (.tail _ (.head _))))))))) (flat_len _ _ _) (.tail _ (.tail _ (.tail _ (.tail _ (.tail _ (.tail _ (.tail _ (.head _)))))))) (flat_len _ _ _) (v := true) (sameB_self _ _ _)).mono ?_
      rintro e w28 ⟨rfl, h⟩
      have H28 := Lib.hid h
      clear h
      obtain ⟨a32, b32, d32⟩ := H28.out.cells (.tail _ (.tail _ (.tail _ (.tail _ (.tail _ (.head _))))))
      obtain ⟨a33, b33, d33⟩ := H28.out.cells (.tail _ (.tail _ (.tail _ (.tail _ (.tail _ (.tail _ (.tail _ (.tail _ (.tail _ (.tail _ (.tail _ (.tail _ (.head _)))))))))))))
      go_wp2_with fail
      clear a32 b32 d32 a33 b33 d33
      refine (sameR H28.out (.tail _ (.tail _ (.tail _ (.tail _ (.tail _ (.head _)))))) (flat_len _ _ _) (.tail _ (.tail _ (.tail _ (.tail _ (.tail _ (.tail _ (.tail _ (.tail _ (.tail _ (.tail _ (.tail _ (.tail _ (.tail _ (.head _)))))))))))))) (flat_len _ _ _) (v := true) (sameB_self _ _ _)).mono ?_
      rintro e w29 ⟨rfl, h⟩
      have H29 := Lib.hid h
      clear h
      obtain ⟨a34, b34, d34⟩ := H29.out.cells (.tail _ (.head _))
      obtain ⟨a35, b35, d35⟩ := H29.out.cells (.tail _ (.tail _ (.head _)))
      go_wp2_with fail
      clear a34 b34 d34 a35 b35 d35
      refine (sameR H29.out (.tail _ (.head _)) (flat_len _ _ _) (.tail _ (.tail _ (.head _))) (flat_len _ _ _) (v := true) (sameB_self _ _ _)).mono ?_
      rintro e w30 ⟨rfl, h⟩
      have H30 := Lib.hid h
      clear h
      obtain ⟨a36, b36, d36⟩ := H30.out.cells (.head _)
      obtain ⟨a37, b37, d37⟩ := H30.out.cells (.tail _ (.tail _ (.tail _ (.tail _ (.tail _ (.tail _ (.tail _ (.tail _ (.tail _ (.tail _ (.tail _ (.tail _ (.head _)))))))))))))
      go_wp2_with fail
      clear a36 b36 d36 a37 b37 d37
      refine (sameR H30.out (.head _) (flat_len _ _ _) (.tail _ (.tail _ (.tail _ (.tail _ (.tail _ (.tail _ (.tail _ (.tail _ (.tail _ (.tail _ (.tail _ (.tail _ (.tail _ (.head _)))))))))))))) (flat_len _ _ _) (v := true) (sameB_self _ _ _)).mono ?_
      rintro e w31 ⟨rfl, h⟩
      have H31 := Lib.hid h
      clear h
      go_wp2_with fail
      refine (works_any _).mono ?_
      rintro e w32 ⟨rfl, hb⟩
      have H32 := Lib.hid (MS.keep H31.out hb)
      clear hb
      go_wp2_with fail
      go_ret
      exact ⟨rfl, H32.out.below⟩
  · skip
    refine step_new (P := Try.prog) _ ⟨rfl, rfl, rfl⟩ newMx ?_
    have H14 := Lib.hid (HD13.out.put #[.int .i64 0, .int .i64 0, .slice none 0 0])
    have HB14 := Lib.hid (And.intro HD13.out.below.size HD13.out.far)
    obtain ⟨g14, hg14⟩ : ∃ x, wd13.heap.size = x := ⟨_, rfl⟩
    rw [hg14] at H14 HB14 ⊢
    clear hg14
    generalize wd13.alloc (.cells #[.int .i64 0, .int .i64 0, .slice none 0 0] 27) = w14 at *
    try dsimp only
    refine hK.out _ _ ?_ (fun hHeld => ?_)
    · intro _
      try dsimp only
      have h := H14.out
      exact h.cells (.tail _ (.tail _ (.tail _ (.tail _ (.tail _ (.tail _ (.tail _ (.head _))))))))
    clear hK K
    try simp only [Act.put, List.setIfInBounds_toArray, List.set_cons_zero, List.set_cons_succ]
    have hHeld := hHeld (by kernel_rfl)
    refine wpAnyG_one (i := 3) (o := { dst := some 82, op := Op.call { callee := Callee.value (Operand.func 27), args := #[Operand.tmp 81], argTypes := #[3] }, type := 27, pos := _, after := #[{ on := 2, ground := Ground.data }], guard := none }) (by kernel_rfl) rfl (fun K hK => ?_)
    go_simp
    refine (oneR H14.out (r := r) rfl (by have := HD.out; omega) (r * r) rfl rfl).mono ?_
    rintro e w15 ⟨A15, c15, rfl, h⟩
    have H15 := Lib.hid h
    clear h
    try dsimp only
    refine hK.out _ _ ?_ (fun hHeld => ?_)
    · intro _
      try dsimp only
      have h := H15.out
      exact h.cells (.tail _ (.tail _ (.tail _ (.tail _ (.tail _ (.tail _ (.tail _ (.head _))))))))
    clear hK K
    try simp only [Act.put, List.setIfInBounds_toArray, List.set_cons_zero, List.set_cons_succ]
    have hHeld := hHeld (by kernel_rfl)
    refine wpAnyG_one (i := 5) (o := { dst := some 84, op := Op.call { callee := Callee.value (Operand.func 18), args := #[Operand.tmp 79, Operand.tmp 82, Operand.tmp 83], argTypes := #[24, 27, 27] }, type := 32, pos := _, after := #[{ on := 0, ground := Ground.data }, { on := 3, ground := Ground.data }, { on := 4, ground := Ground.data }, { on := 3, ground := Ground.chain }], guard := none }) (by kernel_rfl) rfl (fun K hK => ?_)
    go_simp
    refine (mulR H15.out (r := r) (c := r) (d := s) (.head _) (.tail _ (.tail _ (.tail _ (.tail _ (.tail _ (.tail _ (.tail _ (.head _)))))))) rfl rfl ⟨rfl, rfl, rfl, rfl⟩ (by have := HD.out; omega) rfl rfl r s (r * s) ⟨rfl, rfl, rfl⟩ (l := flat r s ma) (flat_congr fun i hi k _ => id_mulM ma hi k)).mono ?_
    rintro e w16 ⟨A16, c16, rfl, h⟩
    have H16 := Lib.hid h
    clear h
    try dsimp only
    refine hK.out _ _ ?_ (fun hHeld => ?_)
    · intro _
      try dsimp only
      have h := H16.out
      exact h.cells (.tail _ (.tail _ (.tail _ (.tail _ (.tail _ (.tail _ (.tail _ (.head _))))))))
    clear hK K
    try simp only [Act.put, List.setIfInBounds_toArray, List.set_cons_zero, List.set_cons_succ]
    have hHeld := hHeld (by kernel_rfl)
    refine wpAnyG_pure (i := 6) (oi := { dst := some 78, op := Op.move (Operand.tmp 84), type := 32, pos := _, after := #[{ on := 5, ground := Ground.data }], guard := none }) (v := ?_) rfl (by kernel_rfl) (by kernel_rfl) (by kernel_rfl) (by kernel_rfl) (fun _ _ _ h => h) (Or.inl ⟨by rfl, ?_⟩) (fun _ => by assumption) ?_
    rotate_left
    · intro w hSw
      try dsimp only at hSw
      go_simp
      try with_reducible rfl
    try simp only [Act.put, List.setIfInBounds_toArray, List.set_cons_zero, List.set_cons_succ]
    refine wpAnyG_pure (i := 7) (oi := { dst := some 85, op := Op.extract (Operand.tmp 78) 0, type := 27, pos := _, after := #[{ on := 6, ground := Ground.data }], guard := none }) (v := ?_) rfl (by kernel_rfl) (by kernel_rfl) (by kernel_rfl) (by kernel_rfl) (fun _ _ _ h => h) (Or.inl ⟨by rfl, ?_⟩) (fun _ => by assumption) ?_
    rotate_left
    · intro w hSw
      try dsimp only at hSw
      go_simp
      try with_reducible rfl
    try simp only [Act.put, List.setIfInBounds_toArray, List.set_cons_zero, List.set_cons_succ]
    refine wpAnyG_pure (i := 8) (oi := { dst := some 86, op := Op.extract (Operand.tmp 78) 1, type := 29, pos := _, after := #[{ on := 6, ground := Ground.data }, { on := 10, ground := Ground.gcOnly Departure.lateStores }], guard := none }) (v := ?_) rfl (by kernel_rfl) (by kernel_rfl) (by kernel_rfl) (by kernel_rfl) (fun _ _ _ h => h) (Or.inl ⟨by rfl, ?_⟩) (fun _ => by assumption) ?_
    rotate_left
    · intro w hSw
      try dsimp only at hSw
      go_simp
      try with_reducible rfl
    try simp only [Act.put, List.setIfInBounds_toArray, List.set_cons_zero, List.set_cons_succ]
    refine wpAnyG_one (i := 10) (o := { dst := none, op := Op.store 27 (Operand.tmp 16) (Operand.tmp 85), type := 0, pos := _, after := #[{ on := 9, ground := Ground.data }, { on := 7, ground := Ground.data }, { on := 5, ground := Ground.chain }, { on := 0, ground := Ground.phase }, { on := 1, ground := Ground.phase }, { on := 2, ground := Ground.phase }, { on := 3, ground := Ground.phase }, { on := 4, ground := Ground.phase }, { on := 5, ground := Ground.phase }, { on := 6, ground := Ground.phase }, { on := 7, ground := Ground.phase }, { on := 8, ground := Ground.textOnly Departure.lateStores }, { on := 9, ground := Ground.phase }], guard := none }) (by kernel_rfl) rfl (fun K hK => ?_)
    obtain ⟨⟨z0, z1, z2⟩, f0, f1, f2⟩ := cells3 (H16.out.box _ (.head _)).1
    go_simp
    have H17 := Lib.hid (H16.out.set HB14.out.1 HB14.out.2 (.int .i64 (r : Int)) (.int .i64 (s : Int)) (.slice A16 (r * s) c16))
    clear z0 z1 z2 f0 f1 f2 HB14
    generalize ((w16.setCell ⟨g14, 0, none⟩ (.int .i64 (r : Int))).setCell ⟨g14, 1, none⟩ (.int .i64 (s : Int))).setCell ⟨g14, 2, none⟩ (.slice A16 (r * s) c16) = w17 at *
    try dsimp only
    refine hK.out _ _ ?_ (fun hHeld => ?_)
    · exact fun h => (st_no (by kernel_rfl) h).elim
    clear hK K
    try simp only [Act.put, List.setIfInBounds_toArray, List.set_cons_zero, List.set_cons_succ]
    clear hHeld
    refine wpAnyG_pure (i := 11) (oi := { dst := some 17, op := Op.assign (Operand.tmp 86), type := 29, pos := _, after := #[{ on := 8, ground := Ground.data }, { on := 10, ground := Ground.chain }, { on := 0, ground := Ground.phase }, { on := 1, ground := Ground.phase }, { on := 2, ground := Ground.phase }, { on := 3, ground := Ground.phase }, { on := 4, ground := Ground.phase }, { on := 5, ground := Ground.phase }, { on := 6, ground := Ground.phase }, { on := 7, ground := Ground.phase }, { on := 8, ground := Ground.phase }, { on := 9, ground := Ground.phase }, { on := 10, ground := Ground.phase }], guard := none }) (v := ?_) rfl (by kernel_rfl) (by kernel_rfl) (by kernel_rfl) (by kernel_rfl) (fun _ _ _ h => h) (Or.inl ⟨by rfl, ?_⟩) (fun h => (st_no (by kernel_rfl) h).elim) ?_
    rotate_left
    · intro w hSw
      try dsimp only at hSw
      go_simp
      try with_reducible rfl
    try simp only [Act.put, List.setIfInBounds_toArray, List.set_cons_zero, List.set_cons_succ]
    refine wpAnyG_done (by kernel_rfl) ?_ _
    refine NoPanic.normal ?_
    obtain ⟨a19, b19, d19⟩ := H17.out.cells (.tail _ (.tail _ (.tail _ (.tail _ (.tail _ (.tail _ (.tail _ (.head _))))))))
    go_wp2_with fail
    clear a19 b19 d19
    refine (turnR H17.out (r := r) (c := s) (.tail _ (.tail _ (.tail _ (.tail _ (.tail _ (.tail _ (.tail _ (.tail _ (.head _))))))))) rfl ⟨rfl, rfl⟩ (by have := HD.out; omega) rfl s r (s * r) ⟨rfl, rfl, rfl⟩ (l := _) (rfl)).mono ?_
    rintro e w18 ⟨A18, c18, rfl, h⟩
    have H18 := Lib.hid h
    clear h
    have L20 := Lib.hid (show MS _ _ _ ((w18.heap.size, #[.int .i64 (s : Int), .int .i64 (r : Int), .slice A18 (s * r) c18]) :: _) (w18.alloc (.cells #[.int .i64 (s : Int), .int .i64 (r : Int), .slice A18 (s * r) c18] 27)) from by have h := H18.out.put #[.int .i64 (s : Int), .int .i64 (r : Int), .slice A18 (s * r) c18]; (try simp only [World.size_alloc] at h); exact h)
    obtain ⟨a21, b21, d21⟩ := L20.out.cells (.tail _ (.tail _ (.tail _ (.tail _ (.tail _ (.tail _ (.tail _ (.head _))))))))
    go_wp2_with fail
    clear a21 b21 d21
    have H19 := L20
    clear L20
    generalize (w18.alloc (.cells #[.int .i64 (s : Int), .int .i64 (r : Int), .slice A18 (s * r) c18] 27)) = w19 at *
    refine (turnR H19.out (r := s) (c := t) (.tail _ (.tail _ (.tail _ (.tail _ (.tail _ (.tail _ (.tail _ (.tail _ (.head _))))))))) rfl ⟨rfl, rfl⟩ (by have := HD.out; omega) rfl t s (t * s) ⟨rfl, rfl, rfl⟩ (l := _) (rfl)).mono ?_
    rintro e w20 ⟨A20, c20, rfl, h⟩
    have H20 := Lib.hid h
    clear h
    have L22 := Lib.hid (show MS _ _ _ ((w20.heap.size, #[.int .i64 (t : Int), .int .i64 (s : Int), .slice A20 (t * s) c20]) :: _) (w20.alloc (.cells #[.int .i64 (t : Int), .int .i64 (s : Int), .slice A20 (t * s) c20] 27)) from by have h := H20.out.put #[.int .i64 (t : Int), .int .i64 (s : Int), .slice A20 (t * s) c20]; (try simp only [World.size_alloc] at h); exact h)
    obtain ⟨a23, b23, d23⟩ := L22.out.cells (.tail _ (.tail _ (.tail _ (.tail _ (.tail _ (.tail _ (.head _)))))))
    go_wp2_with fail
    clear a23 b23 d23
    have H21 := L22
    clear L22
    generalize (w20.alloc (.cells #[.int .i64 (t : Int), .int .i64 (s : Int), .slice A20 (t * s) c20] 27)) = w21 at *
    refine (turnR H21.out (r := r) (c := t) (.tail _ (.tail _ (.tail _ (.tail _ (.tail _ (.tail _ (.tail _ (.head _)))))))) rfl ⟨rfl, rfl⟩ (by have := HD.out; omega) rfl t r (t * r) ⟨rfl, rfl, rfl⟩ (l := _) (rfl)).mono ?_
    rintro e w22 ⟨A22, c22, rfl, h⟩
    have H22 := Lib.hid h
    clear h
    have L24 := Lib.hid (show MS _ _ _ ((w22.heap.size, #[.int .i64 (t : Int), .int .i64 (r : Int), .slice A22 (t * r) c22]) :: _) (w22.alloc (.cells #[.int .i64 (t : Int), .int .i64 (r : Int), .slice A22 (t * r) c22] 27)) from by have h := H22.out.put #[.int .i64 (t : Int), .int .i64 (r : Int), .slice A22 (t * r) c22]; (try simp only [World.size_alloc] at h); exact h)
    obtain ⟨a25, b25, d25⟩ := L24.out.cells (.tail _ (.head _))
    obtain ⟨a26, b26, d26⟩ := L24.out.cells (.tail _ (.tail _ (.head _)))
    go_wp2_with fail
    clear a25 b25 d25 a26 b26 d26
    have H23 := L24
    clear L24
    generalize (w22.alloc (.cells #[.int .i64 (t : Int), .int .i64 (r : Int), .slice A22 (t * r) c22] 27)) = w23 at *
    refine (mulR H23.out (r := t) (c := s) (d := r) (.tail _ (.head _)) (.tail _ (.tail _ (.head _))) rfl rfl ⟨rfl, rfl, rfl, rfl⟩ (by have := HD.out; omega) rfl rfl t r (t * r) ⟨rfl, rfl, rfl⟩ (l := flat t r (fun x y => mulM s ma mb y x)) (flat_congr fun i _ k _ => (mulM_turn s ma mb i k).symm)).mono ?_
    rintro e w24 ⟨A24, c24, rfl, h⟩
    have H24 := Lib.hid h
    clear h
    have L27 := Lib.hid (show MS _ _ _ ((w24.heap.size, #[.int .i64 (t : Int), .int .i64 (r : Int), .slice A24 (t * r) c24]) :: _) (w24.alloc (.cells #[.int .i64 (t : Int), .int .i64 (r : Int), .slice A24 (t * r) c24] 27)) from by have h := H24.out.put #[.int .i64 (t : Int), .int .i64 (r : Int), .slice A24 (t * r) c24]; (try simp only [World.size_alloc] at h); exact h)
    obtain ⟨a28, b28, d28⟩ := L27.out.cells (.tail _ (.tail _ (.tail _ (.head _))))
    go_wp2_with fail
    clear a28 b28 d28
    have H25 := L27
    clear L27
    generalize (w24.alloc (.cells #[.int .i64 (t : Int), .int .i64 (r : Int), .slice A24 (t * r) c24] 27)) = w25 at *
    refine (turnR H25.out (r := s) (c := r) (.tail _ (.tail _ (.tail _ (.head _)))) rfl ⟨rfl, rfl⟩ (by have := HD.out; omega) rfl r s (r * s) ⟨rfl, rfl, rfl⟩ (l := flat r s ma) (rfl)).mono ?_
    rintro e w26 ⟨A26, c26, rfl, h⟩
    have H26 := Lib.hid h
    clear h
    have L29 := Lib.hid (show MS _ _ _ ((w26.heap.size, #[.int .i64 (r : Int), .int .i64 (s : Int), .slice A26 (r * s) c26]) :: _) (w26.alloc (.cells #[.int .i64 (r : Int), .int .i64 (s : Int), .slice A26 (r * s) c26] 27)) from by have h := H26.out.put #[.int .i64 (r : Int), .int .i64 (s : Int), .slice A26 (r * s) c26]; (try simp only [World.size_alloc] at h); exact h)
    obtain ⟨a30, b30, d30⟩ := L29.out.cells (.tail _ (.tail _ (.tail _ (.tail _ (.tail _ (.tail _ (.tail _ (.head _))))))))
    obtain ⟨a31, b31, d31⟩ := L29.out.cells (.tail _ (.tail _ (.tail _ (.tail _ (.tail _ (.tail _ (.head _)))))))
    go_wp2_with fail
    clear a30 b30 d30 a31 b31 d31
    have H27 := L29
    clear L29
    generalize (w26.alloc (.cells #[.int .i64 (r : Int), .int .i64 (s : Int), .slice A26 (r * s) c26] 27)) = w27 at *
    refine (sameR H27.out (.tail _ (.tail _ (.tail _ (.tail _ (.tail _ (.tail _ (.tail _ (.tail _ (.head _))))))))) (flat_len _ _ _) (.tail _ (.tail _ (.tail _ (.tail _ (.tail _ (.tail _ (.tail _ (.head _)))))))) (flat_len _ _ _) (v := true) (sameB_self _ _ _)).mono ?_
    rintro e w28 ⟨rfl, h⟩
    have H28 := Lib.hid h
    clear h
    obtain ⟨a32, b32, d32⟩ := H28.out.cells (.tail _ (.tail _ (.tail _ (.tail _ (.tail _ (.head _))))))
    obtain ⟨a33, b33, d33⟩ := H28.out.cells (.tail _ (.tail _ (.tail _ (.tail _ (.tail _ (.tail _ (.tail _ (.tail _ (.tail _ (.tail _ (.tail _ (.tail _ (.head _)))))))))))))
    go_wp2_with fail
    clear a32 b32 d32 a33 b33 d33
    refine (sameR H28.out (.tail _ (.tail _ (.tail _ (.tail _ (.tail _ (.head _)))))) (flat_len _ _ _) (.tail _ (.tail _ (.tail _ (.tail _ (.tail _ (.tail _ (.tail _ (.tail _ (.tail _ (.tail _ (.tail _ (.tail _ (.tail _ (.head _)))))))))))))) (flat_len _ _ _) (v := true) (sameB_self _ _ _)).mono ?_
    rintro e w29 ⟨rfl, h⟩
    have H29 := Lib.hid h
    clear h
    obtain ⟨a34, b34, d34⟩ := H29.out.cells (.tail _ (.head _))
    obtain ⟨a35, b35, d35⟩ := H29.out.cells (.tail _ (.tail _ (.head _)))
    go_wp2_with fail
    clear a34 b34 d34 a35 b35 d35
    refine (sameR H29.out (.tail _ (.head _)) (flat_len _ _ _) (.tail _ (.tail _ (.head _))) (flat_len _ _ _) (v := true) (sameB_self _ _ _)).mono ?_
    rintro e w30 ⟨rfl, h⟩
    have H30 := Lib.hid h
    clear h
    obtain ⟨a36, b36, d36⟩ := H30.out.cells (.head _)
    obtain ⟨a37, b37, d37⟩ := H30.out.cells (.tail _ (.tail _ (.tail _ (.tail _ (.tail _ (.tail _ (.tail _ (.tail _ (.tail _ (.tail _ (.tail _ (.tail _ (.head _)))))))))))))
    go_wp2_with fail
    clear a36 b36 d36 a37 b37 d37
    refine (sameR H30.out (.head _) (flat_len _ _ _) (.tail _ (.tail _ (.tail _ (.tail _ (.tail _ (.tail _ (.tail _ (.tail _ (.tail _ (.tail _ (.tail _ (.tail _ (.tail _ (.head _)))))))))))))) (flat_len _ _ _) (v := true) (sameB_self _ _ _)).mono ?_
    rintro e w31 ⟨rfl, h⟩
    have H31 := Lib.hid h
    clear h
    go_wp2_with fail
    refine (works_any _).mono ?_
    rintro e w32 ⟨rfl, hb⟩
    have H32 := Lib.hid (MS.keep H31.out hb)
    clear hb
    go_wp2_with fail
    go_ret
    exact ⟨rfl, H32.out.below⟩
theorem mul_nat {R C R' C' : Int} {n n' : Nat} (h : mulB R C n R' C' n' = true) : ∃ r s t : Nat, R = r ∧ C = s ∧ R' = s ∧ C' = t ∧ n = r * s ∧ n' = s * t := by
  unfold mulB at h
  rw [Bool.and_eq_true, Bool.and_eq_true] at h
  obtain ⟨r, s, rfl, rfl, _, _, e1⟩ := right_nat h.1.1
  obtain ⟨s', t, rfl, rfl, _, _, e2⟩ := right_nat h.1.2
  have e3 : s = s' := by have := h.2; simp at this; omega
  subst e3
  exact ⟨r, s, t, rfl, rfl, rfl, rfl, e1, e2⟩
theorem small_nat {r s : Nat} {n : Nat} (h : smallB 8 r s n = true) : r ≤ 8 ∧ s ≤ 8 := by have := of_decide_eq_true h; omega
theorem products_law (w : World) (Ra Ca : Int) (A : Option Addr) (la : List UInt8) (ca : Nat) (ga : Open.MtOk w Ra Ca A la ca) (Rb Cb : Int) (B : Option Addr) (lb : List UInt8) (cb : Nat) (gb : Open.MtOk w Rb Cb B lb cb) (Rc Cc : Int) (C : Option Addr) (lc : List UInt8) (cc : Nat) (gc : Open.MtOk w Rc Cc C lc cc) :
    Calls Try.prog 7 #[.agg #[.int .i64 Ra, .int .i64 Ca, .slice A la.length ca], .agg #[.int .i64 Rb, .int .i64 Cb, .slice B lb.length cb], .agg #[.int .i64 Rc, .int .i64 Cc, .slice C lc.length cc]] w fun e w' => e = .returned (.bool true) ∧ Below w.heap.size w w' := by
  cases hsa : smallB 8 Ra Ca la.length with
  | false => exact products_out0 w Ra Ca A la _ ca rfl ga.row ga.le Rb Cb B lb _ cb rfl gb.row gb.le Rc Cc C lc _ cc rfl gc.row gc.le hsa
  | true =>
  cases hsb : smallB 8 Rb Cb lb.length with
  | false => exact products_out1 w Ra Ca A la _ ca rfl ga.row ga.le Rb Cb B lb _ cb rfl gb.row gb.le Rc Cc C lc _ cc rfl gc.row gc.le hsa hsb
  | true =>
  cases hsc : smallB 8 Rc Cc lc.length with
  | false => exact products_out2 w Ra Ca A la _ ca rfl ga.row ga.le Rb Cb B lb _ cb rfl gb.row gb.le Rc Cc C lc _ cc rfl gc.row gc.le hsa hsb hsc
  | true =>
  cases hm0 : mulB Ra Ca la.length Rb Cb lb.length with
  | false =>
    cases hm1 : mulB Rb Cb lb.length Rc Cc lc.length with
    | false => exact products_bad0 w Ra Ca A la _ ca rfl ga.row ga.le Rb Cb B lb _ cb rfl gb.row gb.le Rc Cc C lc _ cc rfl gc.row gc.le hsa hsb hsc hm0 hm1
    | true =>
      obtain ⟨s, t, u, rfl, rfl, rfl, rfl, e1, e2⟩ := mul_nat hm1
      have d1 := small_nat hsb; have d2 := small_nat hsc
      rw [e1] at hm0
      rw [e1, e2]
      exact products_bad1 w s t u ⟨d1.1, d1.2, d2.2⟩ Ra Ca A la _ ca rfl ga.row ga.le B cb (ent lb t) (by rw [flat_ent e1]; exact gb.row) (by rw [flat_ent e1]; exact gb.le) C cc (ent lc u) (by rw [flat_ent e2]; exact gc.row) (by rw [flat_ent e2]; exact gc.le) hsa hm0
  | true =>
    cases hm1 : mulB Rb Cb lb.length Rc Cc lc.length with
    | false =>
      obtain ⟨r, s, t, rfl, rfl, rfl, rfl, e1, e2⟩ := mul_nat hm0
      have d1 := small_nat hsa; have d2 := small_nat hsb
      rw [e2] at hm1
      rw [e1, e2]
      exact products_bad2 w r s t ⟨d1.1, d1.2, d2.2⟩ A ca (ent la s) (by rw [flat_ent e1]; exact ga.row) (by rw [flat_ent e1]; exact ga.le) B cb (ent lb t) (by rw [flat_ent e2]; exact gb.row) (by rw [flat_ent e2]; exact gb.le) Rc Cc C lc _ cc rfl gc.row gc.le hsc hm1
    | true =>
      obtain ⟨r, s, t, rfl, rfl, rfl, rfl, e1, e2⟩ := mul_nat hm0
      obtain ⟨s', t', u, k1, k2, k3, rfl, e3, e4⟩ := mul_nat hm1
      obtain rfl : s = s' := Int.ofNat.inj k1
      obtain rfl : t = t' := Int.ofNat.inj k2
      subst k3
      have d1 := small_nat hsa; have d2 := small_nat hsb; have d3 := small_nat hsc
      rw [e1, e2, e4]
      exact products_ok w r s t u ⟨d1.1, d1.2, d2.2, d3.2⟩ A ca (ent la s) (by rw [flat_ent e1]; exact ga.row) (by rw [flat_ent e1]; exact ga.le) B cb (ent lb t) (by rw [flat_ent e2]; exact gb.row) (by rw [flat_ent e2]; exact gb.le) C cc (ent lc u) (by rw [flat_ent e4]; exact gc.row) (by rw [flat_ent e4]; exact gc.le)
end Go.Proofs.Ythdapoipfnnaeaa.MxW
/- The law MatrixSolves: its walk. -/
namespace Go.Proofs.Ythdapoipfnnaeaa.MxW
open Go.RowKit Go.Shelf Mem Gf FdW Mx Rng
open PlW (In)
set_option linter.unusedVariables false
set_option linter.unusedSectionVars false
attribute [local go_sem] Oper.semAt_some wide_fn
theorem sol_nat {r c n n' : Nat} {R' C' : Int} (h : solB (r : Int) (c : Int) n R' C' n' = true) : ∃ d : Nat, R' = r ∧ C' = d ∧ n' = r * d := by
  unfold solB at h
  rw [Bool.and_eq_true, Bool.and_eq_true] at h
  obtain ⟨r', d, rfl, rfl, _, _, e⟩ := right_nat h.1.2
  have e3 : r = r' := by have := h.2; simp at this; omega
  subst e3
  exact ⟨d, rfl, rfl, e⟩
set_option maxRecDepth 100000 in
set_option maxHeartbeats 4000000 in
theorem solves_in0 (w : World) (r c : Nat) (hd : r ≤ 8 ∧ c ≤ 8) (A : Option Addr) (ca : Nat) (ma : M) (hA : Bytes w w.heap.size A (flat r c ma)) (hca : (flat r c ma).length ≤ ca) (Rx Cx : Int) (X : Option Addr) (lx : List UInt8) (nx cx : Nat) (hlx : lx.length = nx) (hX : Bytes w w.heap.size X lx) (hcx : lx.length ≤ cx) (Rb Cb : Int) (B : Option Addr) (lb : List UInt8) (nb cb : Nat) (hlb : lb.length = nb) (hB : Bytes w w.heap.size B lb) (hcb : lb.length ≤ cb) (hsx : smallB 8 Rx Cx nx = true) (hsb : smallB 8 Rb Cb nb = true) (hm : mulB (r : Int) (c : Int) (r * c) Rx Cx nx = false) :
    Calls Try.prog 5 #[.agg #[.int .i64 (r : Int), .int .i64 (c : Int), .slice A (r * c) ca], .agg #[.int .i64 Rx, .int .i64 Cx, .slice X nx cx], .agg #[.int .i64 Rb, .int .i64 Cb, .slice B nb cb]] w fun e w' => e = .returned (.bool true) ∧ Below w.heap.size w w' := by
  have H0 := Lib.hid ((((MS.start w).arg hA hca).arg hX hcx).arg hB hcb)
  have HLNx := Lib.hid hlx
  have HLNb := Lib.hid hlb
  have HSa := Lib.hid (small8 (r := r) (s := c) (by omega) (by omega))
  have HSx := Lib.hid hsx
  have HSb := Lib.hid hsb
  have HD := Lib.hid hd
  obtain ⟨k, hk⟩ : ∃ k, rankM r c ma = k := ⟨_, rfl⟩
  have HK := Lib.hid hk
  have HKM := Lib.hid (show k ≤ r ∧ k ≤ c from by have := rank_min r c ma; omega)
  obtain ⟨mn, hmn⟩ : ∃ mn, min (r : Int) (c : Int) = mn := ⟨_, rfl⟩
  have m1 := fun W => run_min2 (r : Int) (c : Int) mn hmn W
  have hkm : ¬ mn < (k : Int) := by have := HKM.out; omega
  have HM := Lib.hid hm
  clear hA hca hX hcx hlx hB hcb hlb hsx hsb hd hmn hk hm
  go_enter Try.func5, Try.ntmps5
  have L1 := Lib.hid (show MS _ _ _ ((w.heap.size, #[.int .i64 (r : Int), .int .i64 (c : Int), .slice A (r * c) ca]) :: _) (w.alloc (.cells #[.int .i64 (r : Int), .int .i64 (c : Int), .slice A (r * c) ca] 27)) from by have h := H0.out.put #[.int .i64 (r : Int), .int .i64 (c : Int), .slice A (r * c) ca]; (try simp only [World.size_alloc] at h); exact h)
  have L2 := Lib.hid (show MS _ _ _ ((w.heap.size + 1, #[.int .i64 Rx, .int .i64 Cx, .slice X nx cx]) :: _) ((w.alloc (.cells #[.int .i64 (r : Int), .int .i64 (c : Int), .slice A (r * c) ca] 27)).alloc (.cells #[.int .i64 Rx, .int .i64 Cx, .slice X nx cx] 27)) from by have h := L1.out.put #[.int .i64 Rx, .int .i64 Cx, .slice X nx cx]; (try simp only [World.size_alloc] at h); exact h)
  have L3 := Lib.hid (show MS _ _ _ ((w.heap.size + 1 + 1, #[.int .i64 Rb, .int .i64 Cb, .slice B nb cb]) :: _) (((w.alloc (.cells #[.int .i64 (r : Int), .int .i64 (c : Int), .slice A (r * c) ca] 27)).alloc (.cells #[.int .i64 Rx, .int .i64 Cx, .slice X nx cx] 27)).alloc (.cells #[.int .i64 Rb, .int .i64 Cb, .slice B nb cb] 27)) from by have h := L2.out.put #[.int .i64 Rb, .int .i64 Cb, .slice B nb cb]; (try simp only [World.size_alloc] at h); exact h)
  obtain ⟨a4, b4, d4⟩ := L3.out.cells (.tail _ (.tail _ (.head _)))
  go_wp2_with fail
  clear a4 b4 d4
  have H1 := L3
  clear L1 L2 L3
  generalize (((w.alloc (.cells #[.int .i64 (r : Int), .int .i64 (c : Int), .slice A (r * c) ca] 27)).alloc (.cells #[.int .i64 Rx, .int .i64 Cx, .slice X nx cx] 27)).alloc (.cells #[.int .i64 Rb, .int .i64 Cb, .slice B nb cb] 27)) = w1 at *
  refine (smallR H1.out 8 (by decide) (v := true) HSa.out).mono ?_
  rintro e w2 ⟨rfl, h⟩
  have H2 := Lib.hid h
  clear h
  obtain ⟨a5, b5, d5⟩ := H2.out.cells (.tail _ (.head _))
  go_wp2_with fail
  clear a5 b5 d5
  refine (smallR H2.out 8 (by decide) (v := true) HSx.out).mono ?_
  rintro e w3 ⟨rfl, h⟩
  have H3 := Lib.hid h
  clear h
  obtain ⟨a6, b6, d6⟩ := H3.out.cells (.head _)
  go_wp2_with fail
  clear a6 b6 d6
  refine (smallR H3.out 8 (by decide) (v := true) HSb.out).mono ?_
  rintro e w4 ⟨rfl, h⟩
  have H4 := Lib.hid h
  clear h
  obtain ⟨a7, b7, d7⟩ := H4.out.cells (.tail _ (.tail _ (.head _)))
  go_wp2_with fail
  clear a7 b7 d7
  refine (rightR H4.out (v := true) (right_dim (by have := HD.out; omega) rfl)).mono ?_
  rintro e w5 ⟨rfl, h⟩
  have H5 := Lib.hid h
  clear h
  go_wp2_with fail
  refine (newR H5.out).mono ?_
  rintro e w6 ⟨rfl, h⟩
  have H6 := Lib.hid h
  clear h
  obtain ⟨a8, b8, d8⟩ := H6.out.cells (.tail _ (.tail _ (.head _)))
  go_wp2_with fail
  clear a8 b8 d8
  refine (rankR H6.out (r := r) (c := c) (.tail _ (.tail _ (.head _))) rfl ⟨rfl, rfl⟩ (by have := HD.out; omega) rfl (k : Int) (by rw [HK.out])).mono ?_
  rintro e w7 ⟨rfl, h⟩
  have H7 := Lib.hid h
  clear h
  obtain ⟨a9, b9, d9⟩ := H7.out.cells (.tail _ (.tail _ (.head _)))
  obtain ⟨a10, b10, d10⟩ := H7.out.cells (.tail _ (.head _))
  go_wp2_with fail
  clear a9 b9 d9 a10 b10 d10
  refine (mul0R H7.out HM.out).mono ?_
  rintro e w8 ⟨rfl, h⟩
  have H8 := Lib.hid h
  clear h
  have L11 := Lib.hid (show MS _ _ _ ((w8.heap.size, #[.int .i64 0, .int .i64 0, .slice none 0 0]) :: _) (w8.alloc (.cells #[.int .i64 0, .int .i64 0, .slice none 0 0] 27)) from by have h := H8.out.put #[.int .i64 0, .int .i64 0, .slice none 0 0]; (try simp only [World.size_alloc] at h); exact h)
  obtain ⟨a12, b12, d12⟩ := L11.out.cells (.tail _ (.tail _ (.tail _ (.head _))))
  obtain ⟨a13, b13, d13⟩ := L11.out.cells (.tail _ (.head _))
  go_wp2_with fail
  clear a12 b12 d12 a13 b13 d13
  have H9 := L11
  clear L11
  generalize (w8.alloc (.cells #[.int .i64 0, .int .i64 0, .slice none 0 0] 27)) = w9 at *
  cases hb : solB (r : Int) (c : Int) (r * c) Rb Cb nb with
  | false =>
    have HB := Lib.hid hb
    clear hb
    refine (solve0R H9.out _ HB.out).mono ?_
    rintro e w10 ⟨rfl, h⟩
    have H10 := Lib.hid h
    clear h
    obtain ⟨a14, b14, d14⟩ := H10.out.cells (.tail _ (.tail _ (.tail _ (.head _))))
    obtain ⟨a15, b15, d15⟩ := H10.out.cells (.tail _ (.head _))
    have L16 := Lib.hid (show MS _ _ _ ((w10.heap.size, #[.int .i64 0, .int .i64 0, .slice none 0 0]) :: _) (w10.alloc (.cells #[.int .i64 0, .int .i64 0, .slice none 0 0] 27)) from by have h := H10.out.put #[.int .i64 0, .int .i64 0, .slice none 0 0]; (try simp only [World.size_alloc] at h); exact h)
    obtain ⟨a17, b17, d17⟩ := L16.out.cells (.tail _ (.tail _ (.tail _ (.tail _ (.head _)))))
    go_wp2_with fail
    clear a14 b14 d14 a15 b15 d15 a17 b17 d17
    have H11 := L16
    clear L16
    generalize (w10.alloc (.cells #[.int .i64 0, .int .i64 0, .slice none 0 0] 27)) = w11 at *
    by_cases hrc : r = c
    · have HRC := Lib.hid (show c = r from hrc.symm)
      have hrc1 : ((r : Int) != (c : Int)) = false := by simp; omega
      clear hrc
      cases hi : solves r r r ma idm with
      | false =>
        have HI := Lib.hid hi
        have hkr : (k : Int) < (r : Int) := by
          have h1 := HK.out; have h2 := HKM.out
          have h3 : k ≠ r := fun e => by
            rw [HRC.out] at h1
            rw [solve_sq (h1.trans e)] at hi; cases hi
          omega
        clear hi
        refine (inv1R H11.out (r := r) (.tail _ (.tail _ (.head _))) (by rw [HRC.out]) ⟨rfl, by rw [HRC.out]⟩ (by have := HD.out; omega) (by rw [HRC.out]) HI.out).mono ?_
        rintro e w12 ⟨rfl, h⟩
        have H12 := Lib.hid h
        clear h
        obtain ⟨a18, b18, d18⟩ := H12.out.cells (.tail _ (.tail _ (.tail _ (.tail _ (.head _)))))
        have L19 := Lib.hid (show MS _ _ _ ((w12.heap.size, #[.int .i64 0, .int .i64 0, .slice none 0 0]) :: _) (w12.alloc (.cells #[.int .i64 0, .int .i64 0, .slice none 0 0] 27)) from by have h := H12.out.put #[.int .i64 0, .int .i64 0, .slice none 0 0]; (try simp only [World.size_alloc] at h); exact h)
        obtain ⟨a20, b20, d20⟩ := L19.out.cells (.tail _ (.tail _ (.tail _ (.tail _ (.tail _ (.head _))))))
        go_wp2_with fail
        clear a18 b18 d18 a20 b20 d20
        have H13 := L19
        clear L19
        generalize (w12.alloc (.cells #[.int .i64 0, .int .i64 0, .slice none 0 0] 27)) = w13 at *
        refine (works_any _).mono ?_
        rintro e w14 ⟨rfl, hb⟩
        have H14 := Lib.hid (MS.keep H13.out hb)
        clear hb
        go_wp2_with fail
        go_ret
        exact ⟨rfl, H14.out.below⟩
      | true =>
        have HI := Lib.hid hi
        have hkr : ((k : Int) == (r : Int)) = true := by
          have h1 := HK.out; have h2 := solve_rank hi
          rw [HRC.out] at h1; simp; omega
        clear hi
        refine (invR H11.out (r := r) (.tail _ (.tail _ (.head _))) (by rw [HRC.out]) ⟨rfl, by rw [HRC.out]⟩ (by have := HD.out; omega) (by rw [HRC.out]) HI.out r (r * r) ⟨rfl, rfl⟩ rfl).mono ?_
        rintro e w12 ⟨A12, c12, rfl, h⟩
        have H12 := Lib.hid h
        clear h
        obtain ⟨a18, b18, d18⟩ := H12.out.cells (.tail _ (.tail _ (.tail _ (.tail _ (.head _)))))
        have L19 := Lib.hid (show MS _ _ _ ((w12.heap.size, #[.int .i64 (r : Int), .int .i64 (r : Int), .slice A12 (r * r) c12]) :: _) (w12.alloc (.cells #[.int .i64 (r : Int), .int .i64 (r : Int), .slice A12 (r * r) c12] 27)) from by have h := H12.out.put #[.int .i64 (r : Int), .int .i64 (r : Int), .slice A12 (r * r) c12]; (try simp only [World.size_alloc] at h); exact h)
        obtain ⟨a20, b20, d20⟩ := L19.out.cells (.tail _ (.tail _ (.tail _ (.tail _ (.tail _ (.head _))))))
        obtain ⟨a21, b21, d21⟩ := L19.out.cells (.head _)
        go_wp2_with fail
        clear a18 b18 d18 a20 b20 d20 a21 b21 d21
        have H13 := L19
        clear L19
        generalize (w12.alloc (.cells #[.int .i64 (r : Int), .int .i64 (r : Int), .slice A12 (r * r) c12] 27)) = w13 at *
        refine (mulR H13.out (r := r) (c := r) (d := r) (.tail _ (.tail _ (.tail _ (.head _)))) (.head _) (by rw [HRC.out]) rfl ⟨rfl, by rw [HRC.out], rfl, rfl⟩ (by have := HD.out; omega) (by rw [HRC.out]) rfl r r (r * r) ⟨rfl, rfl, rfl⟩ (l := flat r r idm) (inv_right HI.out)).mono ?_
        rintro e w14 ⟨A14, c14, rfl, h⟩
        have H14 := Lib.hid h
        clear h
        have L22 := Lib.hid (show MS _ _ _ ((w14.heap.size, #[.int .i64 (r : Int), .int .i64 (r : Int), .slice A14 (r * r) c14]) :: _) (w14.alloc (.cells #[.int .i64 (r : Int), .int .i64 (r : Int), .slice A14 (r * r) c14] 27)) from by have h := H14.out.put #[.int .i64 (r : Int), .int .i64 (r : Int), .slice A14 (r * r) c14]; (try simp only [World.size_alloc] at h); exact h)
        obtain ⟨a23, b23, d23⟩ := L22.out.cells (.tail _ (.tail _ (.tail _ (.tail _ (.tail _ (.tail _ (.head _)))))))
        obtain ⟨a24, b24, d24⟩ := L22.out.cells (.tail _ (.head _))
        go_wp2_with fail
        clear a23 b23 d23 a24 b24 d24
        have H15 := L22
        clear L22
        generalize (w14.alloc (.cells #[.int .i64 (r : Int), .int .i64 (r : Int), .slice A14 (r * r) c14] 27)) = w15 at *
        refine (mulR H15.out (r := r) (c := r) (d := r) (.tail _ (.head _)) (.tail _ (.tail _ (.tail _ (.tail _ (.head _))))) rfl (by rw [HRC.out]) ⟨rfl, rfl, rfl, by rw [HRC.out]⟩ (by have := HD.out; omega) rfl (by rw [HRC.out]) r r (r * r) ⟨rfl, rfl, rfl⟩ (l := flat r r idm) (inv_left HI.out)).mono ?_
        rintro e w16 ⟨A16, c16, rfl, h⟩
        have H16 := Lib.hid h
        clear h
        have L25 := Lib.hid (show MS _ _ _ ((w16.heap.size, #[.int .i64 (r : Int), .int .i64 (r : Int), .slice A16 (r * r) c16]) :: _) (w16.alloc (.cells #[.int .i64 (r : Int), .int .i64 (r : Int), .slice A16 (r * r) c16] 27)) from by have h := H16.out.put #[.int .i64 (r : Int), .int .i64 (r : Int), .slice A16 (r * r) c16]; (try simp only [World.size_alloc] at h); exact h)
        go_wp2_with fail
        have H17 := L25
        clear L25
        generalize (w16.alloc (.cells #[.int .i64 (r : Int), .int .i64 (r : Int), .slice A16 (r * r) c16] 27)) = w17 at *
        refine wp_region_noPanic ?_
        refine wp_heldG (fun w' => (w'.cell? ⟨w.heap.size, 0, none⟩ = some (.int .i64 (r : Int)) ∧ w'.cell? ⟨w.heap.size, 1, none⟩ = some (.int .i64 (c : Int)) ∧ w'.cell? ⟨w.heap.size, 2, none⟩ = some (.slice A (r * c) ca)) ∧ (w'.cell? ⟨w14.heap.size, 0, none⟩ = some (.int .i64 (r : Int)) ∧ w'.cell? ⟨w14.heap.size, 1, none⟩ = some (.int .i64 (r : Int)) ∧ w'.cell? ⟨w14.heap.size, 2, none⟩ = some (.slice A14 (r * r) c14)) ∧ (w'.cell? ⟨w16.heap.size, 0, none⟩ = some (.int .i64 (r : Int)) ∧ w'.cell? ⟨w16.heap.size, 1, none⟩ = some (.int .i64 (r : Int)) ∧ w'.cell? ⟨w16.heap.size, 2, none⟩ = some (.slice A16 (r * r) c16))) [] (by kernel_rfl) ?hs0 ?rg0
        case hs0 =>
          have h := H17.out.keep (nextN (Mem.start w17) 1)
          exact ⟨h.cells (.tail _ (.tail _ (.tail _ (.tail _ (.tail _ (.tail _ (.tail _ (.head _)))))))), h.cells (.tail _ (.head _)), h.cells (.head _)⟩
        case rg0 =>
        intro hHeld
        have HD17 := Lib.hid (show MS _ _ _ _ w17.drew from H17.out.keep (nextN (Mem.start w17) 1))
        generalize w17.drew = wd17 at *
        refine wpAnyG_pure (i := 0) (oi := { dst := some 161, op := Op.move (Operand.tmp 8), type := 3, pos := _, after := #[], guard := none }) (v := ?_) rfl (by kernel_rfl) (by kernel_rfl) (by kernel_rfl) (by kernel_rfl) (fun _ _ _ h => h) (Or.inl ⟨by rfl, ?_⟩) (fun _ => by assumption) ?_
        rotate_left
        · intro w hSw
          try dsimp only at hSw
          go_simp
          try with_reducible rfl
        try simp only [Act.put, List.setIfInBounds_toArray, List.set_cons_zero, List.set_cons_succ]
        refine wpAnyG_pure (i := 1) (oi := { dst := some 162, op := Op.fieldAddr 27 (Operand.tmp 3) 0, type := 0, pos := _, after := #[], guard := none }) (v := ?_) rfl (by kernel_rfl) (by kernel_rfl) (by kernel_rfl) (by kernel_rfl) (fun _ _ _ h => h) (Or.inl ⟨by rfl, ?_⟩) (fun _ => by assumption) ?_
        rotate_left
        · intro w hSw
          try dsimp only at hSw
          go_simp
          try with_reducible rfl
        try simp only [Act.put, List.setIfInBounds_toArray, List.set_cons_zero, List.set_cons_succ]
        refine wpAnyG_take (i := 2) (oi := { dst := some 163, op := Op.load 3 (Operand.tmp 162), type := 3, pos := _, after := #[{ on := 1, ground := Ground.data }], guard := none }) (v := ?_) rfl (by kernel_rfl) (by kernel_rfl) (by kernel_rfl) (by kernel_rfl) (fun _ _ _ h => h) (Or.inl ⟨by rfl, ?_⟩) (by assumption) ?_
        rotate_left
        · intro w hSw
          try dsimp only at hSw
          obtain ⟨⟨k0, k1, k2⟩, ⟨l0, l1, l2⟩, ⟨n0, n1, n2⟩⟩ := hSw
          go_simp
          try with_reducible rfl
        try simp only [Act.put, List.setIfInBounds_toArray, List.set_cons_zero, List.set_cons_succ]
        refine wpAnyG_pure (i := 3) (oi := { dst := some 164, op := Op.binOp BinOp.eql 3 (Operand.tmp 161) (Operand.tmp 163) 3, type := 4, pos := _, after := #[{ on := 0, ground := Ground.data }, { on := 2, ground := Ground.data }], guard := none }) (v := ?_) rfl (by kernel_rfl) (by kernel_rfl) (by kernel_rfl) (by kernel_rfl) (fun _ _ _ h => h) (Or.inl ⟨by rfl, ?_⟩) (fun _ => by assumption) ?_
        rotate_left
        · intro w hSw
          try dsimp only at hSw
          go_simp
          try with_reducible rfl
        try simp only [Act.put, List.setIfInBounds_toArray, List.set_cons_zero, List.set_cons_succ]
        refine wpAnyG_pure (i := 4) (oi := { dst := some 165, op := Op.move (Operand.tmp 164), type := 4, pos := _, after := #[{ on := 3, ground := Ground.data }], guard := none }) (v := ?_) rfl (by kernel_rfl) (by kernel_rfl) (by kernel_rfl) (by kernel_rfl) (fun _ _ _ h => h) (Or.inl ⟨by rfl, ?_⟩) (fun _ => by assumption) ?_
        rotate_left
        · intro w hSw
          try dsimp only at hSw
          go_simp
          try with_reducible rfl
        try simp only [Act.put, List.setIfInBounds_toArray, List.set_cons_zero, List.set_cons_succ]
        refine wpAnyG_take (i := 5) (oi := { dst := some 166, op := Op.load 27 (Operand.tmp 20), type := 27, pos := _, after := #[{ on := 4, ground := Ground.guard }], guard := some (4, true) }) (v := ?_) rfl (by kernel_rfl) (by kernel_rfl) (by kernel_rfl) (by kernel_rfl) (fun _ _ _ h => h) (Or.inl ⟨by rfl, ?_⟩) (by assumption) ?_
        rotate_left
        · intro w hSw
          try dsimp only at hSw
          obtain ⟨⟨k0, k1, k2⟩, ⟨l0, l1, l2⟩, ⟨n0, n1, n2⟩⟩ := hSw
          go_simp
          try with_reducible rfl
        try simp only [Act.put, List.setIfInBounds_toArray, List.set_cons_zero, List.set_cons_succ]
        refine wpAnyG_pure (i := 6) (oi := { dst := some 167, op := Op.fieldAddr 27 (Operand.tmp 3) 0, type := 0, pos := _, after := #[{ on := 4, ground := Ground.guard }], guard := some (4, true) }) (v := ?_) rfl (by kernel_rfl) (by kernel_rfl) (by kernel_rfl) (by kernel_rfl) (fun _ _ _ h => h) (Or.inl ⟨by rfl, ?_⟩) (fun _ => by assumption) ?_
        rotate_left
        · intro w hSw
          try dsimp only at hSw
          go_simp
          try with_reducible rfl
        try simp only [Act.put, List.setIfInBounds_toArray, List.set_cons_zero, List.set_cons_succ]
        refine wpAnyG_take (i := 7) (oi := { dst := some 168, op := Op.load 3 (Operand.tmp 167), type := 3, pos := _, after := #[{ on := 6, ground := Ground.data }, { on := 4, ground := Ground.guard }], guard := some (4, true) }) (v := ?_) rfl (by kernel_rfl) (by kernel_rfl) (by kernel_rfl) (by kernel_rfl) (fun _ _ _ h => h) (Or.inl ⟨by rfl, ?_⟩) (by assumption) ?_
        rotate_left
        · intro w hSw
          try dsimp only at hSw
          obtain ⟨⟨k0, k1, k2⟩, ⟨l0, l1, l2⟩, ⟨n0, n1, n2⟩⟩ := hSw
          go_simp
          try with_reducible rfl
        try simp only [Act.put, List.setIfInBounds_toArray, List.set_cons_zero, List.set_cons_succ]
        refine wpAnyG_one (i := 8) (o := { dst := some 169, op := Op.call { callee := Callee.value (Operand.func 27), args := #[Operand.tmp 168], argTypes := #[3] }, type := 27, pos := _, after := #[{ on := 7, ground := Ground.data }, { on := 4, ground := Ground.chain }, { on := 4, ground := Ground.guard }], guard := some (4, true) }) (by kernel_rfl) rfl (fun K hK => ?_)
        go_simp
        refine (oneR HD17.out (r := r) rfl (by have := HD.out; omega) (r * r) rfl rfl).mono ?_
        rintro e w18 ⟨A18, c18, rfl, h⟩
        have H18 := Lib.hid h
        clear h
        try dsimp only
        refine hK.out _ _ ?_ (fun hHeld => ?_)
        · intro _
          try dsimp only
          have h := H18.out
          exact ⟨h.cells (.tail _ (.tail _ (.tail _ (.tail _ (.tail _ (.tail _ (.tail _ (.head _)))))))), h.cells (.tail _ (.head _)), h.cells (.head _)⟩
        clear hK K
        try simp only [Act.put, List.setIfInBounds_toArray, List.set_cons_zero, List.set_cons_succ]
        have hHeld := hHeld (by kernel_rfl)
        refine wpAnyG_one (i := 9) (o := { dst := some 170, op := Op.call { callee := Callee.value (Operand.func 24), args := #[Operand.tmp 166, Operand.tmp 169], argTypes := #[27, 27] }, type := 4, pos := _, after := #[{ on := 5, ground := Ground.data }, { on := 8, ground := Ground.data }, { on := 8, ground := Ground.chain }, { on := 4, ground := Ground.guard }], guard := some (4, true) }) (by kernel_rfl) rfl (fun K hK => ?_)
        go_simp
        refine (sameR H18.out (.tail _ (.tail _ (.head _))) (flat_len _ _ _) (.head _) (flat_len _ _ _) (v := true) (sameB_self _ _ _)).mono ?_
        rintro e w19 ⟨rfl, h⟩
        have H19 := Lib.hid h
        clear h
        try dsimp only
        refine hK.out _ _ ?_ (fun hHeld => ?_)
        · intro _
          try dsimp only
          have h := H19.out
          exact ⟨h.cells (.tail _ (.tail _ (.tail _ (.tail _ (.tail _ (.tail _ (.tail _ (.head _)))))))), h.cells (.tail _ (.head _)), h.cells (.head _)⟩
        clear hK K
        try simp only [Act.put, List.setIfInBounds_toArray, List.set_cons_zero, List.set_cons_succ]
        have hHeld := hHeld (by kernel_rfl)
        refine wpAnyG_pure (i := 10) (oi := { dst := some 171, op := Op.pick (Operand.tmp 165) (Operand.tmp 170) (Operand.const (Value.bool false)), type := 4, pos := _, after := #[{ on := 4, ground := Ground.data }, { on := 9, ground := Ground.data }], guard := none }) (v := ?_) rfl (by kernel_rfl) (by kernel_rfl) (by kernel_rfl) (by kernel_rfl) (fun _ _ _ h => h) (Or.inl ⟨by rfl, ?_⟩) (fun _ => by assumption) ?_
        rotate_left
        · intro w hSw
          try dsimp only at hSw
          go_simp
          try with_reducible rfl
        try simp only [Act.put, List.setIfInBounds_toArray, List.set_cons_zero, List.set_cons_succ]
        refine wpAnyG_pure (i := 11) (oi := { dst := some 172, op := Op.move (Operand.tmp 171), type := 4, pos := _, after := #[{ on := 10, ground := Ground.data }, { on := 9, ground := Ground.chain }], guard := none }) (v := ?_) rfl (by kernel_rfl) (by kernel_rfl) (by kernel_rfl) (by kernel_rfl) (fun _ _ _ h => h) (Or.inl ⟨by rfl, ?_⟩) (fun _ => by assumption) ?_
        rotate_left
        · intro w hSw
          try dsimp only at hSw
          go_simp
          try with_reducible rfl
        try simp only [Act.put, List.setIfInBounds_toArray, List.set_cons_zero, List.set_cons_succ]
        refine wpAnyG_take (i := 12) (oi := { dst := some 173, op := Op.load 27 (Operand.tmp 22), type := 27, pos := _, after := #[{ on := 11, ground := Ground.guard }], guard := some (11, true) }) (v := ?_) rfl (by kernel_rfl) (by kernel_rfl) (by kernel_rfl) (by kernel_rfl) (fun _ _ _ h => h) (Or.inl ⟨by rfl, ?_⟩) (by assumption) ?_
        rotate_left
        · intro w hSw
          try dsimp only at hSw
          obtain ⟨⟨k0, k1, k2⟩, ⟨l0, l1, l2⟩, ⟨n0, n1, n2⟩⟩ := hSw
          go_simp
          try with_reducible rfl
        try simp only [Act.put, List.setIfInBounds_toArray, List.set_cons_zero, List.set_cons_succ]
        refine wpAnyG_take (i := 13) (oi := { dst := some 174, op := Op.load 27 (Operand.tmp 20), type := 27, pos := _, after := #[{ on := 11, ground := Ground.guard }], guard := some (11, true) }) (v := ?_) rfl (by kernel_rfl) (by kernel_rfl) (by kernel_rfl) (by kernel_rfl) (fun _ _ _ h => h) (Or.inl ⟨by rfl, ?_⟩) (by assumption) ?_
        rotate_left
        · intro w hSw
          try dsimp only at hSw
          obtain ⟨⟨k0, k1, k2⟩, ⟨l0, l1, l2⟩, ⟨n0, n1, n2⟩⟩ := hSw
          go_simp
          try with_reducible rfl
        try simp only [Act.put, List.setIfInBounds_toArray, List.set_cons_zero, List.set_cons_succ]
        refine wpAnyG_one (i := 14) (o := { dst := some 175, op := Op.call { callee := Callee.value (Operand.func 24), args := #[Operand.tmp 173, Operand.tmp 174], argTypes := #[27, 27] }, type := 4, pos := _, after := #[{ on := 12, ground := Ground.data }, { on := 13, ground := Ground.data }, { on := 11, ground := Ground.chain }, { on := 11, ground := Ground.guard }], guard := some (11, true) }) (by kernel_rfl) rfl (fun K hK => ?_)
        go_simp
        refine (sameR H19.out (.tail _ (.head _)) (flat_len _ _ _) (.tail _ (.tail _ (.head _))) (flat_len _ _ _) (v := true) (sameB_self _ _ _)).mono ?_
        rintro e w20 ⟨rfl, h⟩
        have H20 := Lib.hid h
        clear h
        try dsimp only
        refine hK.out _ _ ?_ (fun hHeld => ?_)
        · intro _
          try dsimp only
          have h := H20.out
          exact ⟨h.cells (.tail _ (.tail _ (.tail _ (.tail _ (.tail _ (.tail _ (.tail _ (.head _)))))))), h.cells (.tail _ (.head _)), h.cells (.head _)⟩
        clear hK K
        try simp only [Act.put, List.setIfInBounds_toArray, List.set_cons_zero, List.set_cons_succ]
        have hHeld := hHeld (by kernel_rfl)
        refine wpAnyG_pure (i := 15) (oi := { dst := some 176, op := Op.pick (Operand.tmp 172) (Operand.tmp 175) (Operand.const (Value.bool false)), type := 4, pos := _, after := #[{ on := 11, ground := Ground.data }, { on := 14, ground := Ground.data }], guard := none }) (v := ?_) rfl (by kernel_rfl) (by kernel_rfl) (by kernel_rfl) (by kernel_rfl) (fun _ _ _ h => h) (Or.inl ⟨by rfl, ?_⟩) (fun _ => by assumption) ?_
        rotate_left
        · intro w hSw
          try dsimp only at hSw
          go_simp
          try with_reducible rfl
        try simp only [Act.put, List.setIfInBounds_toArray, List.set_cons_zero, List.set_cons_succ]
        refine wpAnyG_pure (i := 16) (oi := { dst := some 177, op := Op.move (Operand.tmp 176), type := 4, pos := _, after := #[{ on := 15, ground := Ground.data }, { on := 14, ground := Ground.chain }], guard := none }) (v := ?_) rfl (by kernel_rfl) (by kernel_rfl) (by kernel_rfl) (by kernel_rfl) (fun _ _ _ h => h) (Or.inl ⟨by rfl, ?_⟩) (fun _ => by assumption) ?_
        rotate_left
        · intro w hSw
          try dsimp only at hSw
          go_simp
          try with_reducible rfl
        try simp only [Act.put, List.setIfInBounds_toArray, List.set_cons_zero, List.set_cons_succ]
        refine wpAnyG_one (i := 17) (o := { dst := some 178, op := Op.call { callee := Callee.value (Operand.func 11), args := #[], argTypes := #[] }, type := 4, pos := _, after := #[{ on := 16, ground := Ground.chain }, { on := 16, ground := Ground.guard }], guard := some (16, true) }) (by kernel_rfl) rfl (fun K hK => ?_)
        go_simp
        refine (works_any _).mono ?_
        rintro e w21 ⟨rfl, hb⟩
        have H21 := Lib.hid (MS.keep H20.out hb)
        clear hb
        try dsimp only
        refine hK.out _ _ ?_ (fun hHeld => ?_)
        · intro _
          try dsimp only
          have h := H21.out
          exact ⟨h.cells (.tail _ (.tail _ (.tail _ (.tail _ (.tail _ (.tail _ (.tail _ (.head _)))))))), h.cells (.tail _ (.head _)), h.cells (.head _)⟩
        clear hK K
        try simp only [Act.put, List.setIfInBounds_toArray, List.set_cons_zero, List.set_cons_succ]
        have hHeld := hHeld (by kernel_rfl)
        refine wpAnyG_pure (i := 18) (oi := { dst := some 179, op := Op.pick (Operand.tmp 177) (Operand.tmp 178) (Operand.const (Value.bool false)), type := 4, pos := _, after := #[{ on := 16, ground := Ground.data }, { on := 17, ground := Ground.data }], guard := none }) (v := ?_) rfl (by kernel_rfl) (by kernel_rfl) (by kernel_rfl) (by kernel_rfl) (fun _ _ _ h => h) (Or.inl ⟨by rfl, ?_⟩) (fun _ => by assumption) ?_
        rotate_left
        · intro w hSw
          try dsimp only at hSw
          go_simp
          try with_reducible rfl
        try simp only [Act.put, List.setIfInBounds_toArray, List.set_cons_zero, List.set_cons_succ]
        refine wpAnyG_pure (i := 19) (oi := { dst := some 6, op := Op.assign (Operand.tmp 179), type := 4, pos := _, after := #[{ on := 18, ground := Ground.data }, { on := 17, ground := Ground.chain }, { on := 0, ground := Ground.phase }, { on := 1, ground := Ground.phase }, { on := 2, ground := Ground.phase }, { on := 3, ground := Ground.phase }, { on := 4, ground := Ground.phase }, { on := 5, ground := Ground.phase }, { on := 6, ground := Ground.phase }, { on := 7, ground := Ground.phase }, { on := 8, ground := Ground.phase }, { on := 9, ground := Ground.phase }, { on := 10, ground := Ground.phase }, { on := 11, ground := Ground.phase }, { on := 12, ground := Ground.phase }, { on := 13, ground := Ground.phase }, { on := 14, ground := Ground.phase }, { on := 15, ground := Ground.phase }, { on := 16, ground := Ground.phase }, { on := 17, ground := Ground.phase }, { on := 18, ground := Ground.phase }], guard := none }) (v := ?_) rfl (by kernel_rfl) (by kernel_rfl) (by kernel_rfl) (by kernel_rfl) (fun _ _ _ h => h) (Or.inl ⟨by rfl, ?_⟩) (fun _ => by assumption) ?_
        rotate_left
        · intro w hSw
          try dsimp only at hSw
          go_simp
          try with_reducible rfl
        try simp only [Act.put, List.setIfInBounds_toArray, List.set_cons_zero, List.set_cons_succ]
        refine wpAnyG_done (by kernel_rfl) ?_ _
        refine NoPanic.normal ?_
        go_wp2_with fail
        go_ret
        exact ⟨rfl, H21.out.below⟩
    · have HV := Lib.hid (show (rightB (r : Int) (c : Int) (r * c) && (r : Int) == (c : Int)) = false from by rw [Bool.and_eq_false_iff]; right; simp; omega)
      have hrc1 : ((r : Int) != (c : Int)) = true := by simp; omega
      clear hrc
      refine (inv0R H11.out _ HV.out).mono ?_
      rintro e w12 ⟨rfl, h⟩
      have H12 := Lib.hid h
      clear h
      obtain ⟨a18, b18, d18⟩ := H12.out.cells (.tail _ (.tail _ (.tail _ (.tail _ (.head _)))))
      have L19 := Lib.hid (show MS _ _ _ ((w12.heap.size, #[.int .i64 0, .int .i64 0, .slice none 0 0]) :: _) (w12.alloc (.cells #[.int .i64 0, .int .i64 0, .slice none 0 0] 27)) from by have h := H12.out.put #[.int .i64 0, .int .i64 0, .slice none 0 0]; (try simp only [World.size_alloc] at h); exact h)
      obtain ⟨a20, b20, d20⟩ := L19.out.cells (.tail _ (.tail _ (.tail _ (.tail _ (.tail _ (.head _))))))
      go_wp2_with fail
      clear a18 b18 d18 a20 b20 d20
      have H13 := L19
      clear L19
      generalize (w12.alloc (.cells #[.int .i64 0, .int .i64 0, .slice none 0 0] 27)) = w13 at *
      refine (works_any _).mono ?_
      rintro e w14 ⟨rfl, hb⟩
      have H14 := Lib.hid (MS.keep H13.out hb)
      clear hb
      go_wp2_with fail
      go_ret
      exact ⟨rfl, H14.out.below⟩
  | true =>
    obtain ⟨d2, hb1, hb2, hb3⟩ := sol_nat hb
    have HB := Lib.hid (And.intro hb1 (And.intro hb2 (And.intro hb3 (show d2 ≤ 8 from by have h := of_decide_eq_true HSb.out; omega))))
    have HMB := Lib.hid (show lb = flat r d2 (ent lb d2) from (flat_ent (by rw [HLNb.out]; exact hb3)).symm)
    clear hb hb1 hb2 hb3
    cases hs : solves r c d2 ma (ent lb d2) with
    | false =>
      have HT := Lib.hid hs
      clear hs
      refine (solve1R H9.out (r := r) (c := c) (d := d2) (.tail _ (.tail _ (.head _))) (.head _) rfl HB.out.2.2.1 ⟨rfl, rfl, HB.out.1, HB.out.2.1⟩ (by have := HD.out; have := HB.out.2.2.2; omega) rfl HMB.out HT.out).mono ?_
      rintro e w10 ⟨rfl, h⟩
      have H10 := Lib.hid h
      clear h
      obtain ⟨a14, b14, d14⟩ := H10.out.cells (.tail _ (.tail _ (.tail _ (.head _))))
      obtain ⟨a15, b15, d15⟩ := H10.out.cells (.tail _ (.head _))
      have L16 := Lib.hid (show MS _ _ _ ((w10.heap.size, #[.int .i64 0, .int .i64 0, .slice none 0 0]) :: _) (w10.alloc (.cells #[.int .i64 0, .int .i64 0, .slice none 0 0] 27)) from by have h := H10.out.put #[.int .i64 0, .int .i64 0, .slice none 0 0]; (try simp only [World.size_alloc] at h); exact h)
      obtain ⟨a17, b17, d17⟩ := L16.out.cells (.tail _ (.tail _ (.tail _ (.tail _ (.head _)))))
      go_wp2_with fail
      clear a14 b14 d14 a15 b15 d15 a17 b17 d17
      have H11 := L16
      clear L16
      generalize (w10.alloc (.cells #[.int .i64 0, .int .i64 0, .slice none 0 0] 27)) = w11 at *
      by_cases hrc : r = c
      · have HRC := Lib.hid (show c = r from hrc.symm)
        have hrc1 : ((r : Int) != (c : Int)) = false := by simp; omega
        clear hrc
        cases hi : solves r r r ma idm with
        | false =>
          have HI := Lib.hid hi
          have hkr : (k : Int) < (r : Int) := by
            have h1 := HK.out; have h2 := HKM.out
            have h3 : k ≠ r := fun e => by
              rw [HRC.out] at h1
              rw [solve_sq (h1.trans e)] at hi; cases hi
            omega
          clear hi
          refine (inv1R H11.out (r := r) (.tail _ (.tail _ (.head _))) (by rw [HRC.out]) ⟨rfl, by rw [HRC.out]⟩ (by have := HD.out; omega) (by rw [HRC.out]) HI.out).mono ?_
          rintro e w12 ⟨rfl, h⟩
          have H12 := Lib.hid h
          clear h
          obtain ⟨a18, b18, d18⟩ := H12.out.cells (.tail _ (.tail _ (.tail _ (.tail _ (.head _)))))
          have L19 := Lib.hid (show MS _ _ _ ((w12.heap.size, #[.int .i64 0, .int .i64 0, .slice none 0 0]) :: _) (w12.alloc (.cells #[.int .i64 0, .int .i64 0, .slice none 0 0] 27)) from by have h := H12.out.put #[.int .i64 0, .int .i64 0, .slice none 0 0]; (try simp only [World.size_alloc] at h); exact h)
          obtain ⟨a20, b20, d20⟩ := L19.out.cells (.tail _ (.tail _ (.tail _ (.tail _ (.tail _ (.head _))))))
          go_wp2_with fail
          clear a18 b18 d18 a20 b20 d20
          have H13 := L19
          clear L19
          generalize (w12.alloc (.cells #[.int .i64 0, .int .i64 0, .slice none 0 0] 27)) = w13 at *
          refine (works_any _).mono ?_
          rintro e w14 ⟨rfl, hb⟩
          have H14 := Lib.hid (MS.keep H13.out hb)
          clear hb
          go_wp2_with fail
          go_ret
          exact ⟨rfl, H14.out.below⟩
        | true =>
          have HI := Lib.hid hi
          have hkr : ((k : Int) == (r : Int)) = true := by
            have h1 := HK.out; have h2 := solve_rank hi
            rw [HRC.out] at h1; simp; omega
          clear hi
          refine (invR H11.out (r := r) (.tail _ (.tail _ (.head _))) (by rw [HRC.out]) ⟨rfl, by rw [HRC.out]⟩ (by have := HD.out; omega) (by rw [HRC.out]) HI.out r (r * r) ⟨rfl, rfl⟩ rfl).mono ?_
          rintro e w12 ⟨A12, c12, rfl, h⟩
          have H12 := Lib.hid h
          clear h
          obtain ⟨a18, b18, d18⟩ := H12.out.cells (.tail _ (.tail _ (.tail _ (.tail _ (.head _)))))
          have L19 := Lib.hid (show MS _ _ _ ((w12.heap.size, #[.int .i64 (r : Int), .int .i64 (r : Int), .slice A12 (r * r) c12]) :: _) (w12.alloc (.cells #[.int .i64 (r : Int), .int .i64 (r : Int), .slice A12 (r * r) c12] 27)) from by have h := H12.out.put #[.int .i64 (r : Int), .int .i64 (r : Int), .slice A12 (r * r) c12]; (try simp only [World.size_alloc] at h); exact h)
          obtain ⟨a20, b20, d20⟩ := L19.out.cells (.tail _ (.tail _ (.tail _ (.tail _ (.tail _ (.head _))))))
          obtain ⟨a21, b21, d21⟩ := L19.out.cells (.head _)
          go_wp2_with fail
          clear a18 b18 d18 a20 b20 d20 a21 b21 d21
          have H13 := L19
          clear L19
          generalize (w12.alloc (.cells #[.int .i64 (r : Int), .int .i64 (r : Int), .slice A12 (r * r) c12] 27)) = w13 at *
          refine (mulR H13.out (r := r) (c := r) (d := r) (.tail _ (.tail _ (.tail _ (.head _)))) (.head _) (by rw [HRC.out]) rfl ⟨rfl, by rw [HRC.out], rfl, rfl⟩ (by have := HD.out; omega) (by rw [HRC.out]) rfl r r (r * r) ⟨rfl, rfl, rfl⟩ (l := flat r r idm) (inv_right HI.out)).mono ?_
          rintro e w14 ⟨A14, c14, rfl, h⟩
          have H14 := Lib.hid h
          clear h
          have L22 := Lib.hid (show MS _ _ _ ((w14.heap.size, #[.int .i64 (r : Int), .int .i64 (r : Int), .slice A14 (r * r) c14]) :: _) (w14.alloc (.cells #[.int .i64 (r : Int), .int .i64 (r : Int), .slice A14 (r * r) c14] 27)) from by have h := H14.out.put #[.int .i64 (r : Int), .int .i64 (r : Int), .slice A14 (r * r) c14]; (try simp only [World.size_alloc] at h); exact h)
          obtain ⟨a23, b23, d23⟩ := L22.out.cells (.tail _ (.tail _ (.tail _ (.tail _ (.tail _ (.tail _ (.head _)))))))
          obtain ⟨a24, b24, d24⟩ := L22.out.cells (.tail _ (.head _))
          go_wp2_with fail
          clear a23 b23 d23 a24 b24 d24
          have H15 := L22
          clear L22
          generalize (w14.alloc (.cells #[.int .i64 (r : Int), .int .i64 (r : Int), .slice A14 (r * r) c14] 27)) = w15 at *
          refine (mulR H15.out (r := r) (c := r) (d := r) (.tail _ (.head _)) (.tail _ (.tail _ (.tail _ (.tail _ (.head _))))) rfl (by rw [HRC.out]) ⟨rfl, rfl, rfl, by rw [HRC.out]⟩ (by have := HD.out; omega) rfl (by rw [HRC.out]) r r (r * r) ⟨rfl, rfl, rfl⟩ (l := flat r r idm) (inv_left HI.out)).mono ?_
          rintro e w16 ⟨A16, c16, rfl, h⟩
          have H16 := Lib.hid h
          clear h
          have L25 := Lib.hid (show MS _ _ _ ((w16.heap.size, #[.int .i64 (r : Int), .int .i64 (r : Int), .slice A16 (r * r) c16]) :: _) (w16.alloc (.cells #[.int .i64 (r : Int), .int .i64 (r : Int), .slice A16 (r * r) c16] 27)) from by have h := H16.out.put #[.int .i64 (r : Int), .int .i64 (r : Int), .slice A16 (r * r) c16]; (try simp only [World.size_alloc] at h); exact h)
          go_wp2_with fail
          have H17 := L25
          clear L25
          generalize (w16.alloc (.cells #[.int .i64 (r : Int), .int .i64 (r : Int), .slice A16 (r * r) c16] 27)) = w17 at *
          refine wp_region_noPanic ?_
          refine wp_heldG (fun w' => (w'.cell? ⟨w.heap.size, 0, none⟩ = some (.int .i64 (r : Int)) ∧ w'.cell? ⟨w.heap.size, 1, none⟩ = some (.int .i64 (c : Int)) ∧ w'.cell? ⟨w.heap.size, 2, none⟩ = some (.slice A (r * c) ca)) ∧ (w'.cell? ⟨w14.heap.size, 0, none⟩ = some (.int .i64 (r : Int)) ∧ w'.cell? ⟨w14.heap.size, 1, none⟩ = some (.int .i64 (r : Int)) ∧ w'.cell? ⟨w14.heap.size, 2, none⟩ = some (.slice A14 (r * r) c14)) ∧ (w'.cell? ⟨w16.heap.size, 0, none⟩ = some (.int .i64 (r : Int)) ∧ w'.cell? ⟨w16.heap.size, 1, none⟩ = some (.int .i64 (r : Int)) ∧ w'.cell? ⟨w16.heap.size, 2, none⟩ = some (.slice A16 (r * r) c16))) [] (by kernel_rfl) ?hs0 ?rg0
          case hs0 =>
            have h := H17.out.keep (nextN (Mem.start w17) 1)
            exact ⟨h.cells (.tail _ (.tail _ (.tail _ (.tail _ (.tail _ (.tail _ (.tail _ (.head _)))))))), h.cells (.tail _ (.head _)), h.cells (.head _)⟩
          case rg0 =>
          intro hHeld
          have HD17 := Lib.hid (show MS _ _ _ _ w17.drew from H17.out.keep (nextN (Mem.start w17) 1))
          generalize w17.drew = wd17 at *
          refine wpAnyG_pure (i := 0) (oi := { dst := some 161, op := Op.move (Operand.tmp 8), type := 3, pos := _, after := #[], guard := none }) (v := ?_) rfl (by kernel_rfl) (by kernel_rfl) (by kernel_rfl) (by kernel_rfl) (fun _ _ _ h => h) (Or.inl ⟨by rfl, ?_⟩) (fun _ => by assumption) ?_
          rotate_left
          · intro w hSw
            try dsimp only at hSw
            go_simp
            try with_reducible rfl
          try simp only [Act.put, List.setIfInBounds_toArray, List.set_cons_zero, List.set_cons_succ]
          refine wpAnyG_pure (i := 1) (oi := { dst := some 162, op := Op.fieldAddr 27 (Operand.tmp 3) 0, type := 0, pos := _, after := #[], guard := none }) (v := ?_) rfl (by kernel_rfl) (by kernel_rfl) (by kernel_rfl) (by kernel_rfl) (fun _ _ _ h => h) (Or.inl ⟨by rfl, ?_⟩) (fun _ => by assumption) ?_
          rotate_left
          · intro w hSw
            try dsimp only at hSw
            go_simp
            try with_reducible rfl
          try simp only [Act.put, List.setIfInBounds_toArray, List.set_cons_zero, List.set_cons_succ]
          refine wpAnyG_take (i := 2) (oi := { dst := some 163, op := Op.load 3 (Operand.tmp 162), type := 3, pos := _, after := #[{ on := 1, ground := Ground.data }], guard := none }) (v := ?_) rfl (by kernel_rfl) (by kernel_rfl) (by kernel_rfl) (by kernel_rfl) (fun _ _ _ h => h) (Or.inl ⟨by rfl, ?_⟩) (by assumption) ?_
          rotate_left
          · intro w hSw
            try dsimp only at hSw
            obtain ⟨⟨k0, k1, k2⟩, ⟨l0, l1, l2⟩, ⟨n0, n1, n2⟩⟩ := hSw
            go_simp
            try with_reducible rfl
          try simp only [Act.put, List.setIfInBounds_toArray, List.set_cons_zero, List.set_cons_succ]
          refine wpAnyG_pure (i := 3) (oi := { dst := some 164, op := Op.binOp BinOp.eql 3 (Operand.tmp 161) (Operand.tmp 163) 3, type := 4, pos := _, after := #[{ on := 0, ground := Ground.data }, { on := 2, ground := Ground.data }], guard := none }) (v := ?_) rfl (by kernel_rfl) (by kernel_rfl) (by kernel_rfl) (by kernel_rfl) (fun _ _ _ h => h) (Or.inl ⟨by rfl, ?_⟩) (fun _ => by assumption) ?_
          rotate_left
          · intro w hSw
            try dsimp only at hSw
            go_simp
            try with_reducible rfl
          try simp only [Act.put, List.setIfInBounds_toArray, List.set_cons_zero, List.set_cons_succ]
          refine wpAnyG_pure (i := 4) (oi := { dst := some 165, op := Op.move (Operand.tmp 164), type := 4, pos := _, after := #[{ on := 3, ground := Ground.data }], guard := none }) (v := ?_) rfl (by kernel_rfl) (by kernel_rfl) (by kernel_rfl) (by kernel_rfl) (fun _ _ _ h => h) (Or.inl ⟨by rfl, ?_⟩) (fun _ => by assumption) ?_
          rotate_left
          · intro w hSw
            try dsimp only at hSw
            go_simp
            try with_reducible rfl
          try simp only [Act.put, List.setIfInBounds_toArray, List.set_cons_zero, List.set_cons_succ]
          refine wpAnyG_take (i := 5) (oi := { dst := some 166, op := Op.load 27 (Operand.tmp 20), type := 27, pos := _, after := #[{ on := 4, ground := Ground.guard }], guard := some (4, true) }) (v := ?_) rfl (by kernel_rfl) (by kernel_rfl) (by kernel_rfl) (by kernel_rfl) (fun _ _ _ h => h) (Or.inl ⟨by rfl, ?_⟩) (by assumption) ?_
          rotate_left
          · intro w hSw
            try dsimp only at hSw
            obtain ⟨⟨k0, k1, k2⟩, ⟨l0, l1, l2⟩, ⟨n0, n1, n2⟩⟩ := hSw
            go_simp
            try with_reducible rfl
          try simp only [Act.put, List.setIfInBounds_toArray, List.set_cons_zero, List.set_cons_succ]
          refine wpAnyG_pure (i := 6) (oi := { dst := some 167, op := Op.fieldAddr 27 (Operand.tmp 3) 0, type := 0, pos := _, after := #[{ on := 4, ground := Ground.guard }], guard := some (4, true) }) (v := ?_) rfl (by kernel_rfl) (by kernel_rfl) (by kernel_rfl) (by kernel_rfl) (fun _ _ _ h => h) (Or.inl ⟨by rfl, ?_⟩) (fun _ => by assumption) ?_
          rotate_left
          · intro w hSw
            try dsimp only at hSw
            go_simp
            try with_reducible rfl
          try simp only [Act.put, List.setIfInBounds_toArray, List.set_cons_zero, List.set_cons_succ]
          refine wpAnyG_take (i := 7) (oi := { dst := some 168, op := Op.load 3 (Operand.tmp 167), type := 3, pos := _, after := #[{ on := 6, ground := Ground.data }, { on := 4, ground := Ground.guard }], guard := some (4, true) }) (v := ?_) rfl (by kernel_rfl) (by kernel_rfl) (by kernel_rfl) (by kernel_rfl) (fun _ _ _ h => h) (Or.inl ⟨by rfl, ?_⟩) (by assumption) ?_
          rotate_left
          · intro w hSw
            try dsimp only at hSw
            obtain ⟨⟨k0, k1, k2⟩, ⟨l0, l1, l2⟩, ⟨n0, n1, n2⟩⟩ := hSw
            go_simp
            try with_reducible rfl
          try simp only [Act.put, List.setIfInBounds_toArray, List.set_cons_zero, List.set_cons_succ]
          refine wpAnyG_one (i := 8) (o := { dst := some 169, op := Op.call { callee := Callee.value (Operand.func 27), args := #[Operand.tmp 168], argTypes := #[3] }, type := 27, pos := _, after := #[{ on := 7, ground := Ground.data }, { on := 4, ground := Ground.chain }, { on := 4, ground := Ground.guard }], guard := some (4, true) }) (by kernel_rfl) rfl (fun K hK => ?_)
          go_simp
          refine (oneR HD17.out (r := r) rfl (by have := HD.out; omega) (r * r) rfl rfl).mono ?_
          rintro e w18 ⟨A18, c18, rfl, h⟩
          have H18 := Lib.hid h
          clear h
          try dsimp only
          refine hK.out _ _ ?_ (fun hHeld => ?_)
          · intro _
            try dsimp only
            have h := H18.out
            exact ⟨h.cells (.tail _ (.tail _ (.tail _ (.tail _ (.tail _ (.tail _ (.tail _ (.head _)))))))), h.cells (.tail _ (.head _)), h.cells (.head _)⟩
          clear hK K
          try simp only [Act.put, List.setIfInBounds_toArray, List.set_cons_zero, List.set_cons_succ]
          have hHeld := hHeld (by kernel_rfl)
          refine wpAnyG_one (i := 9) (o := { dst := some 170, op := Op.call { callee := Callee.value (Operand.func 24), args := #[Operand.tmp 166, Operand.tmp 169], argTypes := #[27, 27] }, type := 4, pos := _, after := #[{ on := 5, ground := Ground.data }, { on := 8, ground := Ground.data }, { on := 8, ground := Ground.chain }, { on := 4, ground := Ground.guard }], guard := some (4, true) }) (by kernel_rfl) rfl (fun K hK => ?_)
          go_simp
          refine (sameR H18.out (.tail _ (.tail _ (.head _))) (flat_len _ _ _) (.head _) (flat_len _ _ _) (v := true) (sameB_self _ _ _)).mono ?_
          rintro e w19 ⟨rfl, h⟩
          have H19 := Lib.hid h
          clear h
          try dsimp only
          refine hK.out _ _ ?_ (fun hHeld => ?_)
          · intro _
            try dsimp only
            have h := H19.out
            exact ⟨h.cells (.tail _ (.tail _ (.tail _ (.tail _ (.tail _ (.tail _ (.tail _ (.head _)))))))), h.cells (.tail _ (.head _)), h.cells (.head _)⟩
          clear hK K
          try simp only [Act.put, List.setIfInBounds_toArray, List.set_cons_zero, List.set_cons_succ]
          have hHeld := hHeld (by kernel_rfl)
          refine wpAnyG_pure (i := 10) (oi := { dst := some 171, op := Op.pick (Operand.tmp 165) (Operand.tmp 170) (Operand.const (Value.bool false)), type := 4, pos := _, after := #[{ on := 4, ground := Ground.data }, { on := 9, ground := Ground.data }], guard := none }) (v := ?_) rfl (by kernel_rfl) (by kernel_rfl) (by kernel_rfl) (by kernel_rfl) (fun _ _ _ h => h) (Or.inl ⟨by rfl, ?_⟩) (fun _ => by assumption) ?_
          rotate_left
          · intro w hSw
            try dsimp only at hSw
            go_simp
            try with_reducible rfl
          try simp only [Act.put, List.setIfInBounds_toArray, List.set_cons_zero, List.set_cons_succ]
          refine wpAnyG_pure (i := 11) (oi := { dst := some 172, op := Op.move (Operand.tmp 171), type := 4, pos := _, after := #[{ on := 10, ground := Ground.data }, { on := 9, ground := Ground.chain }], guard := none }) (v := ?_) rfl (by kernel_rfl) (by kernel_rfl) (by kernel_rfl) (by kernel_rfl) (fun _ _ _ h => h) (Or.inl ⟨by rfl, ?_⟩) (fun _ => by assumption) ?_
          rotate_left
          · intro w hSw
            try dsimp only at hSw
            go_simp
            try with_reducible rfl
          try simp only [Act.put, List.setIfInBounds_toArray, List.set_cons_zero, List.set_cons_succ]
          refine wpAnyG_take (i := 12) (oi := { dst := some 173, op := Op.load 27 (Operand.tmp 22), type := 27, pos := _, after := #[{ on := 11, ground := Ground.guard }], guard := some (11, true) }) (v := ?_) rfl (by kernel_rfl) (by kernel_rfl) (by kernel_rfl) (by kernel_rfl) (fun _ _ _ h => h) (Or.inl ⟨by rfl, ?_⟩) (by assumption) ?_
          rotate_left
          · intro w hSw
            try dsimp only at hSw
            obtain ⟨⟨k0, k1, k2⟩, ⟨l0, l1, l2⟩, ⟨n0, n1, n2⟩⟩ := hSw
            go_simp
            try with_reducible rfl
          try simp only [Act.put, List.setIfInBounds_toArray, List.set_cons_zero, List.set_cons_succ]
          refine wpAnyG_take (i := 13) (oi := { dst := some 174, op := Op.load 27 (Operand.tmp 20), type := 27, pos := _, after := #[{ on := 11, ground := Ground.guard }], guard := some (11, true) }) (v := ?_) rfl (by kernel_rfl) (by kernel_rfl) (by kernel_rfl) (by kernel_rfl) (fun _ _ _ h => h) (Or.inl ⟨by rfl, ?_⟩) (by assumption) ?_
          rotate_left
          · intro w hSw
            try dsimp only at hSw
            obtain ⟨⟨k0, k1, k2⟩, ⟨l0, l1, l2⟩, ⟨n0, n1, n2⟩⟩ := hSw
            go_simp
            try with_reducible rfl
          try simp only [Act.put, List.setIfInBounds_toArray, List.set_cons_zero, List.set_cons_succ]
          refine wpAnyG_one (i := 14) (o := { dst := some 175, op := Op.call { callee := Callee.value (Operand.func 24), args := #[Operand.tmp 173, Operand.tmp 174], argTypes := #[27, 27] }, type := 4, pos := _, after := #[{ on := 12, ground := Ground.data }, { on := 13, ground := Ground.data }, { on := 11, ground := Ground.chain }, { on := 11, ground := Ground.guard }], guard := some (11, true) }) (by kernel_rfl) rfl (fun K hK => ?_)
          go_simp
          refine (sameR H19.out (.tail _ (.head _)) (flat_len _ _ _) (.tail _ (.tail _ (.head _))) (flat_len _ _ _) (v := true) (sameB_self _ _ _)).mono ?_
          rintro e w20 ⟨rfl, h⟩
          have H20 := Lib.hid h
          clear h
          try dsimp only
          refine hK.out _ _ ?_ (fun hHeld => ?_)
          · intro _
            try dsimp only
            have h := H20.out
            exact ⟨h.cells (.tail _ (.tail _ (.tail _ (.tail _ (.tail _ (.tail _ (.tail _ (.head _)))))))), h.cells (.tail _ (.head _)), h.cells (.head _)⟩
          clear hK K
          try simp only [Act.put, List.setIfInBounds_toArray, List.set_cons_zero, List.set_cons_succ]
          have hHeld := hHeld (by kernel_rfl)
          refine wpAnyG_pure (i := 15) (oi := { dst := some 176, op := Op.pick (Operand.tmp 172) (Operand.tmp 175) (Operand.const (Value.bool false)), type := 4, pos := _, after := #[{ on := 11, ground := Ground.data }, { on := 14, ground := Ground.data }], guard := none }) (v := ?_) rfl (by kernel_rfl) (by kernel_rfl) (by kernel_rfl) (by kernel_rfl) (fun _ _ _ h => h) (Or.inl ⟨by rfl, ?_⟩) (fun _ => by assumption) ?_
          rotate_left
          · intro w hSw
            try dsimp only at hSw
            go_simp
            try with_reducible rfl
          try simp only [Act.put, List.setIfInBounds_toArray, List.set_cons_zero, List.set_cons_succ]
          refine wpAnyG_pure (i := 16) (oi := { dst := some 177, op := Op.move (Operand.tmp 176), type := 4, pos := _, after := #[{ on := 15, ground := Ground.data }, { on := 14, ground := Ground.chain }], guard := none }) (v := ?_) rfl (by kernel_rfl) (by kernel_rfl) (by kernel_rfl) (by kernel_rfl) (fun _ _ _ h => h) (Or.inl ⟨by rfl, ?_⟩) (fun _ => by assumption) ?_
          rotate_left
          · intro w hSw
            try dsimp only at hSw
            go_simp
            try with_reducible rfl
          try simp only [Act.put, List.setIfInBounds_toArray, List.set_cons_zero, List.set_cons_succ]
          refine wpAnyG_one (i := 17) (o := { dst := some 178, op := Op.call { callee := Callee.value (Operand.func 11), args := #[], argTypes := #[] }, type := 4, pos := _, after := #[{ on := 16, ground := Ground.chain }, { on := 16, ground := Ground.guard }], guard := some (16, true) }) (by kernel_rfl) rfl (fun K hK => ?_)
          go_simp
          refine (works_any _).mono ?_
          rintro e w21 ⟨rfl, hb⟩
          have H21 := Lib.hid (MS.keep H20.out hb)
          clear hb
          try dsimp only
          refine hK.out _ _ ?_ (fun hHeld => ?_)
          · intro _
            try dsimp only
            have h := H21.out
            exact ⟨h.cells (.tail _ (.tail _ (.tail _ (.tail _ (.tail _ (.tail _ (.tail _ (.head _)))))))), h.cells (.tail _ (.head _)), h.cells (.head _)⟩
          clear hK K
          try simp only [Act.put, List.setIfInBounds_toArray, List.set_cons_zero, List.set_cons_succ]
          have hHeld := hHeld (by kernel_rfl)
          refine wpAnyG_pure (i := 18) (oi := { dst := some 179, op := Op.pick (Operand.tmp 177) (Operand.tmp 178) (Operand.const (Value.bool false)), type := 4, pos := _, after := #[{ on := 16, ground := Ground.data }, { on := 17, ground := Ground.data }], guard := none }) (v := ?_) rfl (by kernel_rfl) (by kernel_rfl) (by kernel_rfl) (by kernel_rfl) (fun _ _ _ h => h) (Or.inl ⟨by rfl, ?_⟩) (fun _ => by assumption) ?_
          rotate_left
          · intro w hSw
            try dsimp only at hSw
            go_simp
            try with_reducible rfl
          try simp only [Act.put, List.setIfInBounds_toArray, List.set_cons_zero, List.set_cons_succ]
          refine wpAnyG_pure (i := 19) (oi := { dst := some 6, op := Op.assign (Operand.tmp 179), type := 4, pos := _, after := #[{ on := 18, ground := Ground.data }, { on := 17, ground := Ground.chain }, { on := 0, ground := Ground.phase }, { on := 1, ground := Ground.phase }, { on := 2, ground := Ground.phase }, { on := 3, ground := Ground.phase }, { on := 4, ground := Ground.phase }, { on := 5, ground := Ground.phase }, { on := 6, ground := Ground.phase }, { on := 7, ground := Ground.phase }, { on := 8, ground := Ground.phase }, { on := 9, ground := Ground.phase }, { on := 10, ground := Ground.phase }, { on := 11, ground := Ground.phase }, { on := 12, ground := Ground.phase }, { on := 13, ground := Ground.phase }, { on := 14, ground := Ground.phase }, { on := 15, ground := Ground.phase }, { on := 16, ground := Ground.phase }, { on := 17, ground := Ground.phase }, { on := 18, ground := Ground.phase }], guard := none }) (v := ?_) rfl (by kernel_rfl) (by kernel_rfl) (by kernel_rfl) (by kernel_rfl) (fun _ _ _ h => h) (Or.inl ⟨by rfl, ?_⟩) (fun _ => by assumption) ?_
          rotate_left
          · intro w hSw
            try dsimp only at hSw
            go_simp
            try with_reducible rfl
          try simp only [Act.put, List.setIfInBounds_toArray, List.set_cons_zero, List.set_cons_succ]
          refine wpAnyG_done (by kernel_rfl) ?_ _
          refine NoPanic.normal ?_
          go_wp2_with fail
          go_ret
          exact ⟨rfl, H21.out.below⟩
      · have HV := Lib.hid (show (rightB (r : Int) (c : Int) (r * c) && (r : Int) == (c : Int)) = false from by rw [Bool.and_eq_false_iff]; right; simp; omega)
        have hrc1 : ((r : Int) != (c : Int)) = true := by simp; omega
        clear hrc
        refine (inv0R H11.out _ HV.out).mono ?_
        rintro e w12 ⟨rfl, h⟩
        have H12 := Lib.hid h
        clear h
        obtain ⟨a18, b18, d18⟩ := H12.out.cells (.tail _ (.tail _ (.tail _ (.tail _ (.head _)))))
        have L19 := Lib.hid (show MS _ _ _ ((w12.heap.size, #[.int .i64 0, .int .i64 0, .slice none 0 0]) :: _) (w12.alloc (.cells #[.int .i64 0, .int .i64 0, .slice none 0 0] 27)) from by have h := H12.out.put #[.int .i64 0, .int .i64 0, .slice none 0 0]; (try simp only [World.size_alloc] at h); exact h)
        obtain ⟨a20, b20, d20⟩ := L19.out.cells (.tail _ (.tail _ (.tail _ (.tail _ (.tail _ (.head _))))))
        go_wp2_with fail
        clear a18 b18 d18 a20 b20 d20
        have H13 := L19
        clear L19
        generalize (w12.alloc (.cells #[.int .i64 0, .int .i64 0, .slice none 0 0] 27)) = w13 at *
        refine (works_any _).mono ?_
        rintro e w14 ⟨rfl, hb⟩
        have H14 := Lib.hid (MS.keep H13.out hb)
        clear hb
        go_wp2_with fail
        go_ret
        exact ⟨rfl, H14.out.below⟩
    | true =>
      have HT := Lib.hid hs
      clear hs
      refine (solveR H9.out (r := r) (c := c) (d := d2) (.tail _ (.tail _ (.head _))) (.head _) rfl HB.out.2.2.1 ⟨rfl, rfl, HB.out.1, HB.out.2.1⟩ (by have := HD.out; have := HB.out.2.2.2; omega) rfl HMB.out HT.out c Cb (c * d2) ⟨rfl, HB.out.2.1, rfl⟩ rfl).mono ?_
      rintro e w10 ⟨A10, c10, rfl, h⟩
      have H10 := Lib.hid h
      clear h
      obtain ⟨a14, b14, d14⟩ := H10.out.cells (.tail _ (.tail _ (.tail _ (.head _))))
      obtain ⟨a15, b15, d15⟩ := H10.out.cells (.tail _ (.head _))
      have L16 := Lib.hid (show MS _ _ _ ((w10.heap.size, #[.int .i64 (c : Int), .int .i64 Cb, .slice A10 (c * d2) c10]) :: _) (w10.alloc (.cells #[.int .i64 (c : Int), .int .i64 Cb, .slice A10 (c * d2) c10] 27)) from by have h := H10.out.put #[.int .i64 (c : Int), .int .i64 Cb, .slice A10 (c * d2) c10]; (try simp only [World.size_alloc] at h); exact h)
      obtain ⟨a17, b17, d17⟩ := L16.out.cells (.tail _ (.tail _ (.tail _ (.tail _ (.head _)))))
      obtain ⟨a18, b18, d18⟩ := L16.out.cells (.head _)
      go_wp2_with fail
      clear a14 b14 d14 a15 b15 d15 a17 b17 d17 a18 b18 d18
      have H11 := L16
      clear L16
      generalize (w10.alloc (.cells #[.int .i64 (c : Int), .int .i64 Cb, .slice A10 (c * d2) c10] 27)) = w11 at *
      refine (mulR H11.out (r := r) (c := c) (d := d2) (.tail _ (.tail _ (.tail _ (.head _)))) (.head _) rfl rfl ⟨rfl, rfl, rfl, HB.out.2.1⟩ (by have := HD.out; have := HB.out.2.2.2; omega) rfl rfl Rb Cb nb ⟨HB.out.1, HB.out.2.1, HB.out.2.2.1⟩ (l := lb) ((solve_is HT.out).trans HMB.out.symm)).mono ?_
      rintro e w12 ⟨A12, c12, rfl, h⟩
      have H12 := Lib.hid h
      clear h
      have L19 := Lib.hid (show MS _ _ _ ((w12.heap.size, #[.int .i64 Rb, .int .i64 Cb, .slice A12 nb c12]) :: _) (w12.alloc (.cells #[.int .i64 Rb, .int .i64 Cb, .slice A12 nb c12] 27)) from by have h := H12.out.put #[.int .i64 Rb, .int .i64 Cb, .slice A12 nb c12]; (try simp only [World.size_alloc] at h); exact h)
      obtain ⟨a20, b20, d20⟩ := L19.out.cells (.head _)
      obtain ⟨a21, b21, d21⟩ := L19.out.cells (.tail _ (.tail _ (.tail _ (.head _))))
      go_wp2_with fail
      clear a20 b20 d20 a21 b21 d21
      have H13 := L19
      clear L19
      generalize (w12.alloc (.cells #[.int .i64 Rb, .int .i64 Cb, .slice A12 nb c12] 27)) = w13 at *
      refine (sameR H13.out (.head _) HLNb.out (.tail _ (.tail _ (.head _))) HLNb.out (v := true) (sameB_self _ _ _)).mono ?_
      rintro e w14 ⟨rfl, h⟩
      have H14 := Lib.hid h
      clear h
      obtain ⟨a22, b22, d22⟩ := H14.out.cells (.tail _ (.tail _ (.tail _ (.tail _ (.tail _ (.head _))))))
      go_wp2_with fail
      clear a22 b22 d22
      by_cases hrc : r = c
      · have HRC := Lib.hid (show c = r from hrc.symm)
        have hrc1 : ((r : Int) != (c : Int)) = false := by simp; omega
        clear hrc
        cases hi : solves r r r ma idm with
        | false =>
          have HI := Lib.hid hi
          have hkr : (k : Int) < (r : Int) := by
            have h1 := HK.out; have h2 := HKM.out
            have h3 : k ≠ r := fun e => by
              rw [HRC.out] at h1
              rw [solve_sq (h1.trans e)] at hi; cases hi
            omega
          clear hi
          refine (inv1R H14.out (r := r) (.tail _ (.tail _ (.tail _ (.tail _ (.head _))))) (by rw [HRC.out]) ⟨rfl, by rw [HRC.out]⟩ (by have := HD.out; omega) (by rw [HRC.out]) HI.out).mono ?_
          rintro e w15 ⟨rfl, h⟩
          have H15 := Lib.hid h
          clear h
          obtain ⟨a23, b23, d23⟩ := H15.out.cells (.tail _ (.tail _ (.tail _ (.tail _ (.tail _ (.head _))))))
          have L24 := Lib.hid (show MS _ _ _ ((w15.heap.size, #[.int .i64 0, .int .i64 0, .slice none 0 0]) :: _) (w15.alloc (.cells #[.int .i64 0, .int .i64 0, .slice none 0 0] 27)) from by have h := H15.out.put #[.int .i64 0, .int .i64 0, .slice none 0 0]; (try simp only [World.size_alloc] at h); exact h)
          obtain ⟨a25, b25, d25⟩ := L24.out.cells (.tail _ (.tail _ (.tail _ (.tail _ (.tail _ (.tail _ (.head _)))))))
          go_wp2_with fail
          clear a23 b23 d23 a25 b25 d25
          have H16 := L24
          clear L24
          generalize (w15.alloc (.cells #[.int .i64 0, .int .i64 0, .slice none 0 0] 27)) = w16 at *
          refine (works_any _).mono ?_
          rintro e w17 ⟨rfl, hb⟩
          have H17 := Lib.hid (MS.keep H16.out hb)
          clear hb
          go_wp2_with fail
          go_ret
          exact ⟨rfl, H17.out.below⟩
        | true =>
          have HI := Lib.hid hi
          have hkr : ((k : Int) == (r : Int)) = true := by
            have h1 := HK.out; have h2 := solve_rank hi
            rw [HRC.out] at h1; simp; omega
          clear hi
          refine (invR H14.out (r := r) (.tail _ (.tail _ (.tail _ (.tail _ (.head _))))) (by rw [HRC.out]) ⟨rfl, by rw [HRC.out]⟩ (by have := HD.out; omega) (by rw [HRC.out]) HI.out r (r * r) ⟨rfl, rfl⟩ rfl).mono ?_
          rintro e w15 ⟨A15, c15, rfl, h⟩
          have H15 := Lib.hid h
          clear h
          obtain ⟨a23, b23, d23⟩ := H15.out.cells (.tail _ (.tail _ (.tail _ (.tail _ (.tail _ (.head _))))))
          have L24 := Lib.hid (show MS _ _ _ ((w15.heap.size, #[.int .i64 (r : Int), .int .i64 (r : Int), .slice A15 (r * r) c15]) :: _) (w15.alloc (.cells #[.int .i64 (r : Int), .int .i64 (r : Int), .slice A15 (r * r) c15] 27)) from by have h := H15.out.put #[.int .i64 (r : Int), .int .i64 (r : Int), .slice A15 (r * r) c15]; (try simp only [World.size_alloc] at h); exact h)
          obtain ⟨a25, b25, d25⟩ := L24.out.cells (.tail _ (.tail _ (.tail _ (.tail _ (.tail _ (.tail _ (.head _)))))))
          obtain ⟨a26, b26, d26⟩ := L24.out.cells (.head _)
          go_wp2_with fail
          clear a23 b23 d23 a25 b25 d25 a26 b26 d26
          have H16 := L24
          clear L24
          generalize (w15.alloc (.cells #[.int .i64 (r : Int), .int .i64 (r : Int), .slice A15 (r * r) c15] 27)) = w16 at *
          refine (mulR H16.out (r := r) (c := r) (d := r) (.tail _ (.tail _ (.tail _ (.tail _ (.tail _ (.head _)))))) (.head _) (by rw [HRC.out]) rfl ⟨rfl, by rw [HRC.out], rfl, rfl⟩ (by have := HD.out; omega) (by rw [HRC.out]) rfl r r (r * r) ⟨rfl, rfl, rfl⟩ (l := flat r r idm) (inv_right HI.out)).mono ?_
          rintro e w17 ⟨A17, c17, rfl, h⟩
          have H17 := Lib.hid h
          clear h
          have L27 := Lib.hid (show MS _ _ _ ((w17.heap.size, #[.int .i64 (r : Int), .int .i64 (r : Int), .slice A17 (r * r) c17]) :: _) (w17.alloc (.cells #[.int .i64 (r : Int), .int .i64 (r : Int), .slice A17 (r * r) c17] 27)) from by have h := H17.out.put #[.int .i64 (r : Int), .int .i64 (r : Int), .slice A17 (r * r) c17]; (try simp only [World.size_alloc] at h); exact h)
          obtain ⟨a28, b28, d28⟩ := L27.out.cells (.tail _ (.tail _ (.tail _ (.tail _ (.tail _ (.tail _ (.tail _ (.head _))))))))
          obtain ⟨a29, b29, d29⟩ := L27.out.cells (.tail _ (.head _))
          go_wp2_with fail
          clear a28 b28 d28 a29 b29 d29
          have H18 := L27
          clear L27
          generalize (w17.alloc (.cells #[.int .i64 (r : Int), .int .i64 (r : Int), .slice A17 (r * r) c17] 27)) = w18 at *
          refine (mulR H18.out (r := r) (c := r) (d := r) (.tail _ (.head _)) (.tail _ (.tail _ (.tail _ (.tail _ (.tail _ (.tail _ (.head _))))))) rfl (by rw [HRC.out]) ⟨rfl, rfl, rfl, by rw [HRC.out]⟩ (by have := HD.out; omega) rfl (by rw [HRC.out]) r r (r * r) ⟨rfl, rfl, rfl⟩ (l := flat r r idm) (inv_left HI.out)).mono ?_
          rintro e w19 ⟨A19, c19, rfl, h⟩
          have H19 := Lib.hid h
          clear h
          have L30 := Lib.hid (show MS _ _ _ ((w19.heap.size, #[.int .i64 (r : Int), .int .i64 (r : Int), .slice A19 (r * r) c19]) :: _) (w19.alloc (.cells #[.int .i64 (r : Int), .int .i64 (r : Int), .slice A19 (r * r) c19] 27)) from by have h := H19.out.put #[.int .i64 (r : Int), .int .i64 (r : Int), .slice A19 (r * r) c19]; (try simp only [World.size_alloc] at h); exact h)
          go_wp2_with fail
          have H20 := L30
          clear L30
          generalize (w19.alloc (.cells #[.int .i64 (r : Int), .int .i64 (r : Int), .slice A19 (r * r) c19] 27)) = w20 at *
          refine wp_region_noPanic ?_
          refine wp_heldG (fun w' => (w'.cell? ⟨w.heap.size, 0, none⟩ = some (.int .i64 (r : Int)) ∧ w'.cell? ⟨w.heap.size, 1, none⟩ = some (.int .i64 (c : Int)) ∧ w'.cell? ⟨w.heap.size, 2, none⟩ = some (.slice A (r * c) ca)) ∧ (w'.cell? ⟨w17.heap.size, 0, none⟩ = some (.int .i64 (r : Int)) ∧ w'.cell? ⟨w17.heap.size, 1, none⟩ = some (.int .i64 (r : Int)) ∧ w'.cell? ⟨w17.heap.size, 2, none⟩ = some (.slice A17 (r * r) c17)) ∧ (w'.cell? ⟨w19.heap.size, 0, none⟩ = some (.int .i64 (r : Int)) ∧ w'.cell? ⟨w19.heap.size, 1, none⟩ = some (.int .i64 (r : Int)) ∧ w'.cell? ⟨w19.heap.size, 2, none⟩ = some (.slice A19 (r * r) c19))) [] (by kernel_rfl) ?hs0 ?rg0
          case hs0 =>
            have h := H20.out.keep (nextN (Mem.start w20) 1)
            exact ⟨h.cells (.tail _ (.tail _ (.tail _ (.tail _ (.tail _ (.tail _ (.tail _ (.tail _ (.head _))))))))), h.cells (.tail _ (.head _)), h.cells (.head _)⟩
          case rg0 =>
          intro hHeld
          have HD20 := Lib.hid (show MS _ _ _ _ w20.drew from H20.out.keep (nextN (Mem.start w20) 1))
          generalize w20.drew = wd20 at *
          refine wpAnyG_pure (i := 0) (oi := { dst := some 161, op := Op.move (Operand.tmp 8), type := 3, pos := _, after := #[], guard := none }) (v := ?_) rfl (by kernel_rfl) (by kernel_rfl) (by kernel_rfl) (by kernel_rfl) (fun _ _ _ h => h) (Or.inl ⟨by rfl, ?_⟩) (fun _ => by assumption) ?_
          rotate_left
          · intro w hSw
            try dsimp only at hSw
            go_simp
            try with_reducible rfl
          try simp only [Act.put, List.setIfInBounds_toArray, List.set_cons_zero, List.set_cons_succ]
          refine wpAnyG_pure (i := 1) (oi := { dst := some 162, op := Op.fieldAddr 27 (Operand.tmp 3) 0, type := 0, pos := _, after := #[], guard := none }) (v := ?_) rfl (by kernel_rfl) (by kernel_rfl) (by kernel_rfl) (by kernel_rfl) (fun _ _ _ h => h) (Or.inl ⟨by rfl, ?_⟩) (fun _ => by assumption) ?_
          rotate_left
          · intro w hSw
            try dsimp only at hSw
            go_simp
            try with_reducible rfl
          try simp only [Act.put, List.setIfInBounds_toArray, List.set_cons_zero, List.set_cons_succ]
          refine wpAnyG_take (i := 2) (oi := { dst := some 163, op := Op.load 3 (Operand.tmp 162), type := 3, pos := _, after := #[{ on := 1, ground := Ground.data }], guard := none }) (v := ?_) rfl (by kernel_rfl) (by kernel_rfl) (by kernel_rfl) (by kernel_rfl) (fun _ _ _ h => h) (Or.inl ⟨by rfl, ?_⟩) (by assumption) ?_
          rotate_left
          · intro w hSw
            try dsimp only at hSw
            obtain ⟨⟨k0, k1, k2⟩, ⟨l0, l1, l2⟩, ⟨n0, n1, n2⟩⟩ := hSw
            go_simp
            try with_reducible rfl
          try simp only [Act.put, List.setIfInBounds_toArray, List.set_cons_zero, List.set_cons_succ]
          refine wpAnyG_pure (i := 3) (oi := { dst := some 164, op := Op.binOp BinOp.eql 3 (Operand.tmp 161) (Operand.tmp 163) 3, type := 4, pos := _, after := #[{ on := 0, ground := Ground.data }, { on := 2, ground := Ground.data }], guard := none }) (v := ?_) rfl (by kernel_rfl) (by kernel_rfl) (by kernel_rfl) (by kernel_rfl) (fun _ _ _ h => h) (Or.inl ⟨by rfl, ?_⟩) (fun _ => by assumption) ?_
          rotate_left
          · intro w hSw
            try dsimp only at hSw
            go_simp
            try with_reducible rfl
          try simp only [Act.put, List.setIfInBounds_toArray, List.set_cons_zero, List.set_cons_succ]
          refine wpAnyG_pure (i := 4) (oi := { dst := some 165, op := Op.move (Operand.tmp 164), type := 4, pos := _, after := #[{ on := 3, ground := Ground.data }], guard := none }) (v := ?_) rfl (by kernel_rfl) (by kernel_rfl) (by kernel_rfl) (by kernel_rfl) (fun _ _ _ h => h) (Or.inl ⟨by rfl, ?_⟩) (fun _ => by assumption) ?_
          rotate_left
          · intro w hSw
            try dsimp only at hSw
            go_simp
            try with_reducible rfl
          try simp only [Act.put, List.setIfInBounds_toArray, List.set_cons_zero, List.set_cons_succ]
          refine wpAnyG_take (i := 5) (oi := { dst := some 166, op := Op.load 27 (Operand.tmp 20), type := 27, pos := _, after := #[{ on := 4, ground := Ground.guard }], guard := some (4, true) }) (v := ?_) rfl (by kernel_rfl) (by kernel_rfl) (by kernel_rfl) (by kernel_rfl) (fun _ _ _ h => h) (Or.inl ⟨by rfl, ?_⟩) (by assumption) ?_
          rotate_left
          · intro w hSw
            try dsimp only at hSw
            obtain ⟨⟨k0, k1, k2⟩, ⟨l0, l1, l2⟩, ⟨n0, n1, n2⟩⟩ := hSw
            go_simp
            try with_reducible rfl
          try simp only [Act.put, List.setIfInBounds_toArray, List.set_cons_zero, List.set_cons_succ]
          refine wpAnyG_pure (i := 6) (oi := { dst := some 167, op := Op.fieldAddr 27 (Operand.tmp 3) 0, type := 0, pos := _, after := #[{ on := 4, ground := Ground.guard }], guard := some (4, true) }) (v := ?_) rfl (by kernel_rfl) (by kernel_rfl) (by kernel_rfl) (by kernel_rfl) (fun _ _ _ h => h) (Or.inl ⟨by rfl, ?_⟩) (fun _ => by assumption) ?_
          rotate_left
          · intro w hSw
            try dsimp only at hSw
            go_simp
            try with_reducible rfl
          try simp only [Act.put, List.setIfInBounds_toArray, List.set_cons_zero, List.set_cons_succ]
          refine wpAnyG_take (i := 7) (oi := { dst := some 168, op := Op.load 3 (Operand.tmp 167), type := 3, pos := _, after := #[{ on := 6, ground := Ground.data }, { on := 4, ground := Ground.guard }], guard := some (4, true) }) (v := ?_) rfl (by kernel_rfl) (by kernel_rfl) (by kernel_rfl) (by kernel_rfl) (fun _ _ _ h => h) (Or.inl ⟨by rfl, ?_⟩) (by assumption) ?_
          rotate_left
          · intro w hSw
            try dsimp only at hSw
            obtain ⟨⟨k0, k1, k2⟩, ⟨l0, l1, l2⟩, ⟨n0, n1, n2⟩⟩ := hSw
            go_simp
            try with_reducible rfl
          try simp only [Act.put, List.setIfInBounds_toArray, List.set_cons_zero, List.set_cons_succ]
          refine wpAnyG_one (i := 8) (o := { dst := some 169, op := Op.call { callee := Callee.value (Operand.func 27), args := #[Operand.tmp 168], argTypes := #[3] }, type := 27, pos := _, after := #[{ on := 7, ground := Ground.data }, { on := 4, ground := Ground.chain }, { on := 4, ground := Ground.guard }], guard := some (4, true) }) (by kernel_rfl) rfl (fun K hK => ?_)
          go_simp
          refine (oneR HD20.out (r := r) rfl (by have := HD.out; omega) (r * r) rfl rfl).mono ?_
          rintro e w21 ⟨A21, c21, rfl, h⟩
          have H21 := Lib.hid h
          clear h
          try dsimp only
          refine hK.out _ _ ?_ (fun hHeld => ?_)
          · intro _
            try dsimp only
            have h := H21.out
            exact ⟨h.cells (.tail _ (.tail _ (.tail _ (.tail _ (.tail _ (.tail _ (.tail _ (.tail _ (.head _))))))))), h.cells (.tail _ (.head _)), h.cells (.head _)⟩
          clear hK K
          try simp only [Act.put, List.setIfInBounds_toArray, List.set_cons_zero, List.set_cons_succ]
          have hHeld := hHeld (by kernel_rfl)
          refine wpAnyG_one (i := 9) (o := { dst := some 170, op := Op.call { callee := Callee.value (Operand.func 24), args := #[Operand.tmp 166, Operand.tmp 169], argTypes := #[27, 27] }, type := 4, pos := _, after := #[{ on := 5, ground := Ground.data }, { on := 8, ground := Ground.data }, { on := 8, ground := Ground.chain }, { on := 4, ground := Ground.guard }], guard := some (4, true) }) (by kernel_rfl) rfl (fun K hK => ?_)
          go_simp
          refine (sameR H21.out (.tail _ (.tail _ (.head _))) (flat_len _ _ _) (.head _) (flat_len _ _ _) (v := true) (sameB_self _ _ _)).mono ?_
          rintro e w22 ⟨rfl, h⟩
          have H22 := Lib.hid h
          clear h
          try dsimp only
          refine hK.out _ _ ?_ (fun hHeld => ?_)
          · intro _
            try dsimp only
            have h := H22.out
            exact ⟨h.cells (.tail _ (.tail _ (.tail _ (.tail _ (.tail _ (.tail _ (.tail _ (.tail _ (.head _))))))))), h.cells (.tail _ (.head _)), h.cells (.head _)⟩
          clear hK K
          try simp only [Act.put, List.setIfInBounds_toArray, List.set_cons_zero, List.set_cons_succ]
          have hHeld := hHeld (by kernel_rfl)
          refine wpAnyG_pure (i := 10) (oi := { dst := some 171, op := Op.pick (Operand.tmp 165) (Operand.tmp 170) (Operand.const (Value.bool false)), type := 4, pos := _, after := #[{ on := 4, ground := Ground.data }, { on := 9, ground := Ground.data }], guard := none }) (v := ?_) rfl (by kernel_rfl) (by kernel_rfl) (by kernel_rfl) (by kernel_rfl) (fun _ _ _ h => h) (Or.inl ⟨by rfl, ?_⟩) (fun _ => by assumption) ?_
          rotate_left
          · intro w hSw
            try dsimp only at hSw
            go_simp
            try with_reducible rfl
          try simp only [Act.put, List.setIfInBounds_toArray, List.set_cons_zero, List.set_cons_succ]
          refine wpAnyG_pure (i := 11) (oi := { dst := some 172, op := Op.move (Operand.tmp 171), type := 4, pos := _, after := #[{ on := 10, ground := Ground.data }, { on := 9, ground := Ground.chain }], guard := none }) (v := ?_) rfl (by kernel_rfl) (by kernel_rfl) (by kernel_rfl) (by kernel_rfl) (fun _ _ _ h => h) (Or.inl ⟨by rfl, ?_⟩) (fun _ => by assumption) ?_
          rotate_left
          · intro w hSw
            try dsimp only at hSw
            go_simp
            try with_reducible rfl
          try simp only [Act.put, List.setIfInBounds_toArray, List.set_cons_zero, List.set_cons_succ]
          refine wpAnyG_take (i := 12) (oi := { dst := some 173, op := Op.load 27 (Operand.tmp 22), type := 27, pos := _, after := #[{ on := 11, ground := Ground.guard }], guard := some (11, true) }) (v := ?_) rfl (by kernel_rfl) (by kernel_rfl) (by kernel_rfl) (by kernel_rfl) (fun _ _ _ h => h) (Or.inl ⟨by rfl, ?_⟩) (by assumption) ?_
          rotate_left
          · intro w hSw
            try dsimp only at hSw
            obtain ⟨⟨k0, k1, k2⟩, ⟨l0, l1, l2⟩, ⟨n0, n1, n2⟩⟩ := hSw
            go_simp
            try with_reducible rfl
          try simp only [Act.put, List.setIfInBounds_toArray, List.set_cons_zero, List.set_cons_succ]
          refine wpAnyG_take (i := 13) (oi := { dst := some 174, op := Op.load 27 (Operand.tmp 20), type := 27, pos := _, after := #[{ on := 11, ground := Ground.guard }], guard := some (11, true) }) (v := ?_) rfl (by kernel_rfl) (by kernel_rfl) (by kernel_rfl) (by kernel_rfl) (fun _ _ _ h => h) (Or.inl ⟨by rfl, ?_⟩) (by assumption) ?_
          rotate_left
          · intro w hSw
            try dsimp only at hSw
            obtain ⟨⟨k0, k1, k2⟩, ⟨l0, l1, l2⟩, ⟨n0, n1, n2⟩⟩ := hSw
            go_simp
            try with_reducible rfl
          try simp only [Act.put, List.setIfInBounds_toArray, List.set_cons_zero, List.set_cons_succ]
          refine wpAnyG_one (i := 14) (o := { dst := some 175, op := Op.call { callee := Callee.value (Operand.func 24), args := #[Operand.tmp 173, Operand.tmp 174], argTypes := #[27, 27] }, type := 4, pos := _, after := #[{ on := 12, ground := Ground.data }, { on := 13, ground := Ground.data }, { on := 11, ground := Ground.chain }, { on := 11, ground := Ground.guard }], guard := some (11, true) }) (by kernel_rfl) rfl (fun K hK => ?_)
          go_simp
          refine (sameR H22.out (.tail _ (.head _)) (flat_len _ _ _) (.tail _ (.tail _ (.head _))) (flat_len _ _ _) (v := true) (sameB_self _ _ _)).mono ?_
          rintro e w23 ⟨rfl, h⟩
          have H23 := Lib.hid h
          clear h
          try dsimp only
          refine hK.out _ _ ?_ (fun hHeld => ?_)
          · intro _
            try dsimp only
            have h := H23.out
            exact ⟨h.cells (.tail _ (.tail _ (.tail _ (.tail _ (.tail _ (.tail _ (.tail _ (.tail _ (.head _))))))))), h.cells (.tail _ (.head _)), h.cells (.head _)⟩
          clear hK K
          try simp only [Act.put, List.setIfInBounds_toArray, List.set_cons_zero, List.set_cons_succ]
          have hHeld := hHeld (by kernel_rfl)
          refine wpAnyG_pure (i := 15) (oi := { dst := some 176, op := Op.pick (Operand.tmp 172) (Operand.tmp 175) (Operand.const (Value.bool false)), type := 4, pos := _, after := #[{ on := 11, ground := Ground.data }, { on := 14, ground := Ground.data }], guard := none }) (v := ?_) rfl (by kernel_rfl) (by kernel_rfl) (by kernel_rfl) (by kernel_rfl) (fun _ _ _ h => h) (Or.inl ⟨by rfl, ?_⟩) (fun _ => by assumption) ?_
          rotate_left
          · intro w hSw
            try dsimp only at hSw
            go_simp
            try with_reducible rfl
          try simp only [Act.put, List.setIfInBounds_toArray, List.set_cons_zero, List.set_cons_succ]
          refine wpAnyG_pure (i := 16) (oi := { dst := some 177, op := Op.move (Operand.tmp 176), type := 4, pos := _, after := #[{ on := 15, ground := Ground.data }, { on := 14, ground := Ground.chain }], guard := none }) (v := ?_) rfl (by kernel_rfl) (by kernel_rfl) (by kernel_rfl) (by kernel_rfl) (fun _ _ _ h => h) (Or.inl ⟨by rfl, ?_⟩) (fun _ => by assumption) ?_
          rotate_left
          · intro w hSw
            try dsimp only at hSw
            go_simp
            try with_reducible rfl
          try simp only [Act.put, List.setIfInBounds_toArray, List.set_cons_zero, List.set_cons_succ]
          refine wpAnyG_one (i := 17) (o := { dst := some 178, op := Op.call { callee := Callee.value (Operand.func 11), args := #[], argTypes := #[] }, type := 4, pos := _, after := #[{ on := 16, ground := Ground.chain }, { on := 16, ground := Ground.guard }], guard := some (16, true) }) (by kernel_rfl) rfl (fun K hK => ?_)
          go_simp
          refine (works_any _).mono ?_
          rintro e w24 ⟨rfl, hb⟩
          have H24 := Lib.hid (MS.keep H23.out hb)
          clear hb
          try dsimp only
          refine hK.out _ _ ?_ (fun hHeld => ?_)
          · intro _
            try dsimp only
            have h := H24.out
            exact ⟨h.cells (.tail _ (.tail _ (.tail _ (.tail _ (.tail _ (.tail _ (.tail _ (.tail _ (.head _))))))))), h.cells (.tail _ (.head _)), h.cells (.head _)⟩
          clear hK K
          try simp only [Act.put, List.setIfInBounds_toArray, List.set_cons_zero, List.set_cons_succ]
          have hHeld := hHeld (by kernel_rfl)
          refine wpAnyG_pure (i := 18) (oi := { dst := some 179, op := Op.pick (Operand.tmp 177) (Operand.tmp 178) (Operand.const (Value.bool false)), type := 4, pos := _, after := #[{ on := 16, ground := Ground.data }, { on := 17, ground := Ground.data }], guard := none }) (v := ?_) rfl (by kernel_rfl) (by kernel_rfl) (by kernel_rfl) (by kernel_rfl) (fun _ _ _ h => h) (Or.inl ⟨by rfl, ?_⟩) (fun _ => by assumption) ?_
          rotate_left
          · intro w hSw
            try dsimp only at hSw
            go_simp
            try with_reducible rfl
          try simp only [Act.put, List.setIfInBounds_toArray, List.set_cons_zero, List.set_cons_succ]
          refine wpAnyG_pure (i := 19) (oi := { dst := some 6, op := Op.assign (Operand.tmp 179), type := 4, pos := _, after := #[{ on := 18, ground := Ground.data }, { on := 17, ground := Ground.chain }, { on := 0, ground := Ground.phase }, { on := 1, ground := Ground.phase }, { on := 2, ground := Ground.phase }, { on := 3, ground := Ground.phase }, { on := 4, ground := Ground.phase }, { on := 5, ground := Ground.phase }, { on := 6, ground := Ground.phase }, { on := 7, ground := Ground.phase }, { on := 8, ground := Ground.phase }, { on := 9, ground := Ground.phase }, { on := 10, ground := Ground.phase }, { on := 11, ground := Ground.phase }, { on := 12, ground := Ground.phase }, { on := 13, ground := Ground.phase }, { on := 14, ground := Ground.phase }, { on := 15, ground := Ground.phase }, { on := 16, ground := Ground.phase }, { on := 17, ground := Ground.phase }, { on := 18, ground := Ground.phase }], guard := none }) (v := ?_) rfl (by kernel_rfl) (by kernel_rfl) (by kernel_rfl) (by kernel_rfl) (fun _ _ _ h => h) (Or.inl ⟨by rfl, ?_⟩) (fun _ => by assumption) ?_
          rotate_left
          · intro w hSw
            try dsimp only at hSw
            go_simp
            try with_reducible rfl
          try simp only [Act.put, List.setIfInBounds_toArray, List.set_cons_zero, List.set_cons_succ]
          refine wpAnyG_done (by kernel_rfl) ?_ _
          refine NoPanic.normal ?_
          go_wp2_with fail
          go_ret
          exact ⟨rfl, H24.out.below⟩
      · have HV := Lib.hid (show (rightB (r : Int) (c : Int) (r * c) && (r : Int) == (c : Int)) = false from by rw [Bool.and_eq_false_iff]; right; simp; omega)
        have hrc1 : ((r : Int) != (c : Int)) = true := by simp; omega
        clear hrc
        refine (inv0R H14.out _ HV.out).mono ?_
        rintro e w15 ⟨rfl, h⟩
        have H15 := Lib.hid h
        clear h
        obtain ⟨a23, b23, d23⟩ := H15.out.cells (.tail _ (.tail _ (.tail _ (.tail _ (.tail _ (.head _))))))
        have L24 := Lib.hid (show MS _ _ _ ((w15.heap.size, #[.int .i64 0, .int .i64 0, .slice none 0 0]) :: _) (w15.alloc (.cells #[.int .i64 0, .int .i64 0, .slice none 0 0] 27)) from by have h := H15.out.put #[.int .i64 0, .int .i64 0, .slice none 0 0]; (try simp only [World.size_alloc] at h); exact h)
        obtain ⟨a25, b25, d25⟩ := L24.out.cells (.tail _ (.tail _ (.tail _ (.tail _ (.tail _ (.tail _ (.head _)))))))
        go_wp2_with fail
        clear a23 b23 d23 a25 b25 d25
        have H16 := L24
        clear L24
        generalize (w15.alloc (.cells #[.int .i64 0, .int .i64 0, .slice none 0 0] 27)) = w16 at *
        refine (works_any _).mono ?_
        rintro e w17 ⟨rfl, hb⟩
        have H17 := Lib.hid (MS.keep H16.out hb)
        clear hb
        go_wp2_with fail
        go_ret
        exact ⟨rfl, H17.out.below⟩
end Go.Proofs.Ythdapoipfnnaeaa.MxW
