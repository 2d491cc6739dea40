/- Matrices as a law holds them: rows of bytes, boxes, perhaps a field; what each call leaves of them. -/
import Derived.Test.YthdapoipfnnaeaaMxPack
import Derived.Test.YthdapoipfnnaeaaMxPow
import Derived.Test.YthdapoipfnnaeaaMxVan
import Derived.Test.YthdapoipfnnaeaaRng2
namespace Go.Proofs.Ythdapoipfnnaeaa.MxW
open Go.RowKit Go.Shelf Mem Gf FdW Mx Rng
open PlW (In)
set_option linter.unusedVariables false
set_option linter.unusedSectionVars false

structure Rw where
  A : Option Addr
  l : List UInt8
  c : Nat
/-- Since w0 nothing that was there has turned; these rows are there, these boxes of matrices, this field. -/
structure MS (w0 : World) (p : Option Nat) (R : List Rw) (X : List (Nat × Array Value)) (w : World) : Prop where
  below : Below w0.heap.size w0 w
  fld : ∀ q, p = some q → w0.heap.size ≤ q ∧ Fld w q
  row : ∀ r ∈ R, Bytes w w.heap.size r.A r.l ∧ (∀ q, p = some q → ∀ b o, r.A = some ⟨b, o, none⟩ → 0 < r.l.length → b ≠ q) ∧ r.l.length ≤ r.c
  box : ∀ x ∈ X, Blk w x.1 27 x.2 ∧ ∀ q, p = some q → x.1 ≠ q
def MatR (w0 : World) (p : Option Nat) (R : List Rw) (X : List (Nat × Array Value)) (r c : Int) (n : Nat) (l : List UInt8) (e : Ending) (w' : World) : Prop :=
  ∃ A cap, e = .returned (.tuple #[.agg #[.int .i64 r, .int .i64 c, .slice A n cap], .int .i64 0]) ∧ MS w0 p (⟨A, l, cap⟩ :: R) X w'
def MatO (w0 : World) (p : Option Nat) (R : List Rw) (X : List (Nat × Array Value)) (r c : Int) (n : Nat) (l : List UInt8) (e : Ending) (w' : World) : Prop :=
  ∃ A cap, e = .returned (.agg #[.int .i64 r, .int .i64 c, .slice A n cap]) ∧ MS w0 p (⟨A, l, cap⟩ :: R) X w'
def BytR (w0 : World) (p : Option Nat) (R : List Rw) (X : List (Nat × Array Value)) (n : Nat) (l : List UInt8) (e : Ending) (w' : World) : Prop :=
  ∃ A cap, e = .returned (.tuple #[.slice A n cap, .int .i64 0]) ∧ MS w0 p (⟨A, l, cap⟩ :: R) X w'
def SayM (w0 : World) (p : Option Nat) (R : List Rw) (X : List (Nat × Array Value)) (v : Value) (e : Ending) (w' : World) : Prop := e = .returned v ∧ MS w0 p R X w'
section
variable {w0 w w' : World} {p : Option Nat} {R : List Rw} {X : List (Nat × Array Value)}
theorem MS.start (w : World) : MS w none [] [] w := ⟨Below.refl _ _, fun _ h => (by cases h), fun _ h => (List.not_mem_nil h).elim, fun _ h => (List.not_mem_nil h).elim⟩
theorem MS.keep (h : MS w0 p R X w) (hb : Below w.heap.size w w') : MS w0 p R X w' :=
  ⟨h.below.trans (hb.mono h.below.size), fun q e => ⟨(h.fld q e).1, (h.fld q e).2.keep hb⟩, fun r hr => ⟨((h.row r hr).1.below hb).up hb.size, (h.row r hr).2⟩, fun x hx => ⟨(h.box x hx).1.keep hb, (h.box x hx).2⟩⟩
theorem MS.in_ {q : Nat} (h : MS w0 (some q) R X w) {r : Rw} (hr : r ∈ R) : In w q r.A r.l := ⟨(h.row r hr).1, (h.row r hr).2.1 q rfl⟩
theorem MS.fr {q : Nat} (h : MS w0 (some q) R X w) (hF : Fld w' q) (hf : Fr (fun k => k = q) w w') : MS w0 (some q) R X w' :=
  ⟨h.below.trans (hf.below h.below.size fun k hk => by rw [hk]; exact (h.fld q rfl).1), fun q' e => (by injection e with e; subst e; exact ⟨(h.fld q rfl).1, hF⟩),
   fun r hr => ⟨((h.in_ hr).field hf).1, (h.row r hr).2⟩, fun x hx => ⟨(h.box x hx).1.fr hf ((h.box x hx).2 q rfl), (h.box x hx).2⟩⟩
theorem MS.arg (h : MS w0 none R X w) {A : Option Addr} {l : List UInt8} {c : Nat} (hb : Bytes w0 w0.heap.size A l) (hc : l.length ≤ c) : MS w0 none (⟨A, l, c⟩ :: R) X w :=
  ⟨h.below, h.fld, fun r hr => by
    rcases List.mem_cons.1 hr with rfl | hr
    · exact ⟨(hb.below h.below).up h.below.size, fun _ e => (by cases e), hc⟩
    · exact h.row r hr, h.box⟩
/-- A new row. -/
theorem MS.new (h : MS w0 p R X w) {w1 : World} {A : Option Addr} {l : List UInt8} {c : Nat} (hn : Nw w1.heap.size w A l) (hq : ∀ q, p = some q → q < w1.heap.size) (hc : l.length ≤ c) : MS w0 p (⟨A, l, c⟩ :: R) X w :=
  ⟨h.below, h.fld, fun r hr => by
    rcases List.mem_cons.1 hr with rfl | hr
    · exact ⟨hn.1, fun q e b o e2 hl => (by have := hn.2 b o e2 hl; have := hq q e; omega), hc⟩
    · exact h.row r hr, h.box⟩
theorem MS.lt (h : MS w0 p R X w) : ∀ q, p = some q → q < w.heap.size := fun q e => (h.fld q e).2.lt
theorem MS.nilR (h : MS w0 p R X w) : MS w0 p (⟨none, [], 0⟩ :: R) X w := h.new (w1 := w) ⟨Bytes.nil, fun _ _ e => by cases e⟩ h.lt (Nat.le_refl _)
/-- A box more. -/
theorem MS.put (h : MS w0 p R X w) (cs : Array Value) : MS w0 p R ((w.heap.size, cs) :: X) (w.alloc (.cells cs 27)) := by
  have k := h.keep (nextA (Mem.start w) (.cells cs 27))
  exact ⟨k.below, k.fld, k.row, fun x hx => by
    rcases List.mem_cons.1 hx with rfl | hx
    · exact ⟨Blk.new w _ _, fun q e => by have := h.lt q e; dsimp only; omega⟩
    · exact k.box x hx⟩
theorem MS.lit (h : MS w0 p R X w) (cs : Array Value) (l : List UInt8) (hm : cs.size ≤ maxLen) (e : cs.toList = l.map u8v) (c : Nat) (hc : l.length ≤ c) : MS w0 p (⟨some ⟨w.heap.size, 0, none⟩, l, c⟩ :: R) X (w.alloc (.cells cs 5)) := by
  have ho := own_made w cs 5 hm (base := w.heap.size) (Nat.le_refl _)
  rw [e] at ho
  exact (h.keep (nextA (Mem.start w) _)).new (w1 := w) (Nw.of_own ho) h.lt hc
theorem MS.cells (h : MS w0 p R X w) {g : Nat} {c0 c1 c2 : Value} (hx : (g, #[c0, c1, c2]) ∈ X) : w.cell? ⟨g, 0, none⟩ = some c0 ∧ w.cell? ⟨g, 1, none⟩ = some c1 ∧ w.cell? ⟨g, 2, none⟩ = some c2 := (cells3 (h.box _ hx).1).1
theorem MS.out (h : MS w0 none R X w) (hb : Below w.heap.size w w') (q : Nat) (hF : Fld w' q) (hq : w.heap.size ≤ q) : MS w0 (some q) R X w' := by
  have k := h.keep hb
  refine ⟨k.below, fun q' e => (by injection e with e; subst e; exact ⟨Nat.le_trans h.below.size hq, hF⟩), fun r hr => ⟨(k.row r hr).1, fun q' e b o e2 hl => ?_, (k.row r hr).2.2⟩, fun x hx => ⟨(k.box x hx).1, fun q' e => ?_⟩⟩
  · injection e with e
    obtain ⟨b', o', e', hlt, _⟩ := (h.row r hr).1 (by simpa using hl)
    rw [e2] at e'; injection e' with e'; injection e' with e' _
    omega
  · injection e with e
    have := (h.box x hx).1.lt
    omega
/-- A box written. -/
theorem MS.set {g : Nat} {i0 i1 : Int} {B : Option Addr} {nn cc : Nat} (h : MS w0 p R ((g, #[.int .i64 i0, .int .i64 i1, .slice B nn cc]) :: X) w) (hg : w0.heap.size ≤ g) (hne : ∀ x ∈ X, x.1 ≠ g) (v0 v1 v2 : Value) :
    MS w0 p R ((g, #[v0, v1, v2]) :: X) (((w.setCell ⟨g, 0, none⟩ v0).setCell ⟨g, 1, none⟩ v1).setCell ⟨g, 2, none⟩ v2) := by
  have hb := (h.box _ (.head _)).1
  have hq := (h.box _ (.head _)).2
  obtain ⟨hb', hf⟩ := set3 hb v0 v1 v2
  refine ⟨h.below.trans (hf.below h.below.size fun k hk => by rw [hk]; exact hg), fun q e => ⟨(h.fld q e).1, (h.fld q e).2.fr hf (fun e2 => hq q e e2.symm)⟩, fun r hr => ⟨fun hl => ?_, (h.row r hr).2⟩, fun x hx => ?_⟩
  · obtain ⟨b, off, e, hlt, hc⟩ := (h.row r hr).1 hl
    refine ⟨b, off, e, Nat.lt_of_lt_of_le hlt hf.size, fun j v hv => (World.cell?_of_block (hf.block b hlt fun e2 => ?_)).trans (hc j v hv)⟩
    dsimp only at e2
    subst e2
    have hl' : 0 < r.l.length := by simpa using hl
    have h1 := hc 0 (u8v r.l[0]) (by rw [List.getElem?_map, List.getElem?_eq_getElem hl']; rfl)
    obtain ⟨⟨k0, k1, k2⟩, _⟩ := cells3 hb
    rw [Nat.add_zero] at h1
    match off with
    | 0 => rw [k0] at h1; injection h1 with h1; injection h1 with h1 _; cases h1
    | 1 => rw [k1] at h1; injection h1 with h1; injection h1 with h1 _; cases h1
    | 2 => rw [k2] at h1; injection h1 with h1; cases h1
    | o + 3 => rw [hb.cell (o + 3), Array.getElem?_eq_none (by simp)] at h1; cases h1
  · rcases List.mem_cons.1 hx with rfl | hx
    · exact ⟨hb', hq⟩
    · exact ⟨(h.box x (.tail _ hx)).1.fr hf (hne x hx), (h.box x (.tail _ hx)).2⟩
theorem MS.far (h : MS w0 p R X w) : ∀ x ∈ X, x.1 ≠ w.heap.size := fun x hx => by have := (h.box x hx).1.lt; omega
theorem newMx : NewRun Try.prog 27 #[.int .i64 0, .int .i64 0, .slice none 0 0] := fun w => by kernel_rfl
theorem newR (h : MS w0 none R X w) : Calls Try.prog 12 #[] w fun e w' => e = .returned (.pointer (some ⟨w.heap.size, 0, none⟩)) ∧ MS w0 (some w.heap.size) R X w' :=
  (newf_any w).mono fun e w' ⟨he, hF, hb, hs⟩ => ⟨he, h.out hb _ (.inl hF) (Nat.le_refl _)⟩
theorem right_dim {r c n : Nat} (h : r ≤ 100 ∧ c ≤ 100) (hn : n = r * c) : rightB r c n = true := by
  unfold rightB
  rw [decide_eq_true_iff]
  exact ⟨by omega, by omega, by omega, by omega, by rw [hn]; simp⟩
variable (h : MS w0 p R X w)
include h
section
variable {A B : Option Addr} {a b : List UInt8} {ca cb n m r c d : Nat} {ma mb : M} {R1 C1 R2 C2 : Int}
theorem smallR (t : Int) (ht : 0 ≤ t ∧ t ≤ 100) {v : Bool} (hv : smallB t R1 C1 n = v) : Calls Try.prog 16 #[.agg #[.int .i64 R1, .int .i64 C1, .slice A n ca], .int .i64 t] w (SayM w0 p R X (.bool v)) := by
  subst hv
  exact (small_any w t R1 C1 ht A n ca).mono fun e w' ⟨he, hb⟩ => ⟨he, h.keep hb⟩
theorem rightR {v : Bool} (hv : rightB R1 C1 n = v) : Calls Try.prog 26 #[.agg #[.int .i64 R1, .int .i64 C1, .slice A n ca]] w (SayM w0 p R X (.bool v)) := by
  subst hv
  exact (right_any w R1 C1 A n ca).mono fun e w' ⟨he, hb⟩ => ⟨he, h.keep hb⟩
theorem sameR (ha : ⟨A, a, ca⟩ ∈ R) (hn : a.length = n) (hb : ⟨B, b, cb⟩ ∈ R) (hm : b.length = m) {v : Bool} (hv : sameB R1 C1 R2 C2 a b = v) :
    Calls Try.prog 24 #[.agg #[.int .i64 R1, .int .i64 C1, .slice A n ca], .agg #[.int .i64 R2, .int .i64 C2, .slice B m cb]] w (SayM w0 p R X (.bool v)) := by
  subst hv
  exact (same_any w R1 C1 R2 C2 A B a b n ca m cb _ _ hn hm (Nat.le_refl _) (Nat.le_refl _) (h.row _ ha).1 (h.row _ hb).1).mono fun e w' ⟨he, hb⟩ => ⟨he, h.keep hb⟩
theorem sameBytesR (ha : ⟨A, a, ca⟩ ∈ R) (hn : a.length = n) (hb : ⟨B, b, cb⟩ ∈ R) (hm : b.length = m) {v : Bool} (hv : decide (a = b) = v) :
    Calls Try.prog 41 #[.slice A n ca, .slice B m cb] w fun e w' => e = .returned (.bool v) ∧ w = w' := by
  subst hv
  exact sameBytes_any w A B a b n ca m cb _ _ hn hm (h.row _ ha).1 (h.row _ hb).1
theorem turnR (ha : ⟨A, a, ca⟩ ∈ R) (hn : n = r * c) (hR : R1 = r ∧ C1 = c) (hd : r ≤ 100 ∧ c ≤ 100) (hA : a = flat r c ma) (Ro Co : Int) (no : Nat) (ho : Ro = c ∧ Co = r ∧ no = c * r) {l : List UInt8} (hl : flat c r (fun x y => ma y x) = l) :
    Calls Try.prog 34 #[.agg #[.int .i64 R1, .int .i64 C1, .slice A n ca]] w (MatR w0 p R X Ro Co no l) := by
  obtain ⟨rfl, rfl⟩ := hR; obtain ⟨rfl, rfl, rfl⟩ := ho
  subst hA; subst hl
  have hq : r * c ≤ 10000 := Nat.mul_le_mul hd.1 hd.2
  refine (turned_ok w r c A n ca ma hn (right_dim hd hn) (by have := (h.row _ ha).2.2; rw [hn]; simpa [flat_len] using this) (by omega) (h.row _ ha).1).mono fun e w' ⟨A', cap, he, hle, hnw, hb⟩ => ⟨A', cap, he, (h.keep hb).new hnw h.lt (by rw [flat_len]; exact hle)⟩
theorem turn0R (hv : rightB R1 C1 n = false) : Calls Try.prog 34 #[.agg #[.int .i64 R1, .int .i64 C1, .slice A n ca]] w (SayM w0 p R X (.tuple #[.agg #[.int .i64 0, .int .i64 0, .slice none 0 0], .int .i64 50])) :=
  (turned_bad w R1 C1 A n ca hv).mono fun e w' ⟨he, hb⟩ => ⟨he, h.keep hb⟩
theorem oneR (hR : R1 = r) (hd : r ≤ 100) (no : Nat) (ho : no = r * r) {l : List UInt8} (hl : flat r r idm = l) : Calls Try.prog 27 #[.int .i64 R1] w (MatO w0 p R X R1 R1 no l) := by
  subst hR; subst ho; subst hl
  exact (one_in w r (by omega)).mono fun e w' ⟨A', cap, he, hle, hnw, hb⟩ => ⟨A', cap, he, (h.keep hb).new hnw h.lt (by rw [flat_len]; exact hle)⟩
theorem packdR (ha : ⟨A, a, ca⟩ ∈ R) (hn : n = r * r) (hR : R1 = r ∧ C1 = r) (hd : r ≤ 100) (hA : a = flat r r ma) (hs : flat r r (fun x y => ma y x) = flat r r ma) (no : Nat) (ho : no = offS r r) {l : List UInt8} (hl : packS r ma r = l) :
    Calls Try.prog 39 #[.agg #[.int .i64 R1, .int .i64 C1, .slice A n ca]] w (BytR w0 p R X no l) := by
  obtain ⟨rfl, rfl⟩ := hR
  subst hA; subst hl; subst ho
  have hq : r * r ≤ 10000 := Nat.mul_le_mul hd hd
  refine (packed_ok w r A n ca ma hn (right_dim ⟨hd, hd⟩ hn) (by have := (h.row _ ha).2.2; rw [hn]; simpa [flat_len] using this) (by omega) (h.row _ ha).1 hs).mono fun e w' ⟨A', cap, he, hle, hnw, hb⟩ => ⟨A', cap, he, (h.keep hb).new hnw h.lt (by rw [packS_len]; exact hle)⟩
theorem symR (ha : ⟨A, b, ca⟩ ∈ R) (hcm : ca ≤ maxLen) (hn : b.length = n) (hR : R1 = r) (hd : r ≤ 100) (h2 : 2 * n = r * (r + 1)) (no : Nat) (ho : no = r * r) {l : List UInt8} (hl : flat r r (symM r b) = l) :
    Calls Try.prog 30 #[.int .i64 R1, .slice A n ca] w (MatR w0 p R X R1 R1 no l) := by
  subst hR; subst ho; subst hl
  exact (sym_ok w r hd A b n ca hn h2 (by have := (h.row _ ha).2.2; dsimp only at this; omega) hcm (h.row _ ha).1).mono fun e w' ⟨A', cap, he, hle, hnw, hb⟩ => ⟨A', cap, he, (h.keep hb).new hnw h.lt (by rw [flat_len]; exact hle)⟩
theorem sym0R (hR : 0 ≤ R1 ∧ R1 ≤ 100) (h2 : (n : Int) ≠ R1 * (R1 + 1) / 2) : Calls Try.prog 30 #[.int .i64 R1, .slice A n ca] w (SayM w0 p R X (.tuple #[.agg #[.int .i64 0, .int .i64 0, .slice none 0 0], .int .i64 50])) :=
  (sym_bad w R1 A n ca (by omega) (.inr (.inr ⟨by omega, by omega, h2⟩))).mono fun e w' ⟨he, hb⟩ => ⟨he, h.keep hb⟩
end
end
section
variable {w0 w w' : World} {q : Nat} {R : List Rw} {X : List (Nat × Array Value)}
variable (h : MS w0 (some q) R X w)
include h
variable {A B : Option Addr} {a b : List UInt8} {ca cb n m r c d : Nat} {ma mb : M} {R1 C1 R2 C2 : Int}
theorem mulR (ha : ⟨A, a, ca⟩ ∈ R) (hb : ⟨B, b, cb⟩ ∈ R) (hn : n = r * c) (hm : m = c * d) (hR : R1 = r ∧ C1 = c ∧ R2 = c ∧ C2 = d) (hd : r ≤ 100 ∧ c ≤ 100 ∧ d ≤ 100) (hA : a = flat r c ma) (hB : b = flat c d mb)
    (Ro Co : Int) (no : Nat) (ho : Ro = r ∧ Co = d ∧ no = r * d) {l : List UInt8} (hl : flat r d (mulM c ma mb) = l) :
    Calls Try.prog 18 #[fptr (some q), .agg #[.int .i64 R1, .int .i64 C1, .slice A n ca], .agg #[.int .i64 R2, .int .i64 C2, .slice B m cb]] w (MatR w0 (some q) R X Ro Co no l) := by
  obtain ⟨rfl, rfl, rfl, rfl⟩ := hR; obtain ⟨rfl, rfl, rfl⟩ := ho
  subst hA; subst hB; subst hl
  have k1 := (h.row _ ha).2.2; have k2 := (h.row _ hb).2.2
  dsimp only at k1 k2
  rw [flat_len] at k1 k2
  refine (mul_ok w q (h.fld q rfl).2 r c d A B n ca m cb ma mb (right_dim ⟨hd.1, hd.2.1⟩ hn) (right_dim ⟨hd.2.1, hd.2.2⟩ hm) hd ⟨by omega, by omega⟩ (h.in_ ha) (h.in_ hb)).mono fun e w' ⟨A', cap, he, hle, hnw, hF, hf⟩ => ⟨A', cap, he, (h.fr hF hf).new hnw h.lt (by rw [flat_len]; exact hle)⟩
theorem mul0R (hv : mulB R1 C1 n R2 C2 m = false) : Calls Try.prog 18 #[fptr (some q), .agg #[.int .i64 R1, .int .i64 C1, .slice A n ca], .agg #[.int .i64 R2, .int .i64 C2, .slice B m cb]] w (SayM w0 (some q) R X (.tuple #[.agg #[.int .i64 0, .int .i64 0, .slice none 0 0], .int .i64 50])) :=
  (mul_bad w q R1 C1 R2 C2 A B n ca m cb hv).mono fun e w' ⟨he, hb⟩ => ⟨he, h.keep hb⟩
theorem rankR (ha : ⟨A, a, ca⟩ ∈ R) (hn : n = r * c) (hR : R1 = r ∧ C1 = c) (hd : r ≤ 100 ∧ c ≤ 100) (hA : a = flat r c ma) (Ko : Int) (ho : Ko = rankM r c ma) :
    Calls Try.prog 14 #[fptr (some q), .agg #[.int .i64 R1, .int .i64 C1, .slice A n ca]] w (SayM w0 (some q) R X (.tuple #[.int .i64 Ko, .int .i64 0])) := by
  obtain ⟨rfl, rfl⟩ := hR
  subst hA; subst ho
  exact (rank_ok w q (h.fld q rfl).2 r c A n ca ma (right_dim hd hn) hd (h.in_ ha)).mono fun e w' ⟨he, hF, hf⟩ => ⟨he, h.fr hF hf⟩
theorem solveR (ha : ⟨A, a, ca⟩ ∈ R) (hb : ⟨B, b, cb⟩ ∈ R) (hn : n = r * c) (hm : m = r * d) (hR : R1 = r ∧ C1 = c ∧ R2 = r ∧ C2 = d) (hd : r ≤ 100 ∧ c ≤ 100 ∧ d ≤ 100) (hA : a = flat r c ma) (hB : b = flat r d mb) (hs : solves r c d ma mb = true)
    (Ro Co : Int) (no : Nat) (ho : Ro = c ∧ Co = d ∧ no = c * d) {l : List UInt8} (hl : flat c d (redTo r ma mb c).B = l) :
    Calls Try.prog 21 #[fptr (some q), .agg #[.int .i64 R1, .int .i64 C1, .slice A n ca], .agg #[.int .i64 R2, .int .i64 C2, .slice B m cb]] w (MatR w0 (some q) R X Ro Co no l) := by
  obtain ⟨rfl, rfl, rfl, rfl⟩ := hR; obtain ⟨rfl, rfl, rfl⟩ := ho
  subst hA; subst hB; subst hl
  refine (solve_ok w q (h.fld q rfl).2 r c d A B n ca m cb ma mb (right_dim ⟨hd.1, hd.2.1⟩ hn) (right_dim ⟨hd.1, hd.2.2⟩ hm) hd (h.in_ ha) (h.in_ hb) hs).mono fun e w' ⟨A', cap, he, hle, hnw, hF, hf⟩ => ⟨A', cap, he, (h.fr hF hf).new hnw h.lt (by rw [flat_len]; exact hle)⟩
theorem solve1R (ha : ⟨A, a, ca⟩ ∈ R) (hb : ⟨B, b, cb⟩ ∈ R) (hn : n = r * c) (hm : m = r * d) (hR : R1 = r ∧ C1 = c ∧ R2 = r ∧ C2 = d) (hd : r ≤ 100 ∧ c ≤ 100 ∧ d ≤ 100) (hA : a = flat r c ma) (hB : b = flat r d mb) (hs : solves r c d ma mb = false) :
    Calls Try.prog 21 #[fptr (some q), .agg #[.int .i64 R1, .int .i64 C1, .slice A n ca], .agg #[.int .i64 R2, .int .i64 C2, .slice B m cb]] w (SayM w0 (some q) R X (.tuple #[.agg #[.int .i64 0, .int .i64 0, .slice none 0 0], .int .i64 51])) := by
  obtain ⟨rfl, rfl, rfl, rfl⟩ := hR
  subst hA; subst hB
  exact (solve_no w q (h.fld q rfl).2 r c d A B n ca m cb ma mb (right_dim ⟨hd.1, hd.2.1⟩ hn) (right_dim ⟨hd.1, hd.2.2⟩ hm) hd (h.in_ ha) (h.in_ hb) hs).mono fun e w' ⟨he, hF, hf⟩ => ⟨he, h.fr hF hf⟩
theorem solve0R (F : Value) (hv : solB R1 C1 n R2 C2 m = false) : Calls Try.prog 21 #[F, .agg #[.int .i64 R1, .int .i64 C1, .slice A n ca], .agg #[.int .i64 R2, .int .i64 C2, .slice B m cb]] w (SayM w0 (some q) R X (.tuple #[.agg #[.int .i64 0, .int .i64 0, .slice none 0 0], .int .i64 50])) :=
  (solve_bad w F R1 C1 R2 C2 A B n ca m cb hv).mono fun e w' ⟨he, hb⟩ => ⟨he, h.keep hb⟩
theorem invR (ha : ⟨A, a, ca⟩ ∈ R) (hn : n = r * r) (hR : R1 = r ∧ C1 = r) (hd : r ≤ 100) (hA : a = flat r r ma) (hs : solves r r r ma idm = true) (Ro : Int) (no : Nat) (ho : Ro = r ∧ no = r * r) {l : List UInt8} (hl : flat r r (redTo r ma idm r).B = l) :
    Calls Try.prog 15 #[fptr (some q), .agg #[.int .i64 R1, .int .i64 C1, .slice A n ca]] w (MatR w0 (some q) R X Ro Ro no l) := by
  obtain ⟨rfl, rfl⟩ := hR; obtain ⟨rfl, rfl⟩ := ho
  subst hA; subst hl
  refine (inv_ok w q (h.fld q rfl).2 r A n ca ma (right_dim ⟨hd, hd⟩ hn) hd (h.in_ ha) hs).mono fun e w' ⟨A', cap, he, hle, hnw, hF, hf⟩ => ⟨A', cap, he, (h.fr hF hf).new hnw h.lt (by rw [flat_len]; exact hle)⟩
theorem inv1R (ha : ⟨A, a, ca⟩ ∈ R) (hn : n = r * r) (hR : R1 = r ∧ C1 = r) (hd : r ≤ 100) (hA : a = flat r r ma) (hs : solves r r r ma idm = false) :
    Calls Try.prog 15 #[fptr (some q), .agg #[.int .i64 R1, .int .i64 C1, .slice A n ca]] w (SayM w0 (some q) R X (.tuple #[.agg #[.int .i64 0, .int .i64 0, .slice none 0 0], .int .i64 51])) := by
  obtain ⟨rfl, rfl⟩ := hR
  subst hA
  exact (inv_no w q (h.fld q rfl).2 r A n ca ma (right_dim ⟨hd, hd⟩ hn) hd (h.in_ ha) hs).mono fun e w' ⟨he, hF, hf⟩ => ⟨he, h.fr hF hf⟩
theorem inv0R (F : Value) (hv : (rightB R1 C1 n && R1 == C1) = false) : Calls Try.prog 15 #[F, .agg #[.int .i64 R1, .int .i64 C1, .slice A n ca]] w (SayM w0 (some q) R X (.tuple #[.agg #[.int .i64 0, .int .i64 0, .slice none 0 0], .int .i64 50])) :=
  (inv_bad w F R1 C1 A n ca hv).mono fun e w' ⟨he, hb⟩ => ⟨he, h.keep hb⟩
theorem powR (ha : ⟨A, a, ca⟩ ∈ R) (hn : a.length = n) (hR : C1 = c) (hd : n ≤ 1000 ∧ c ≤ 1000) (Ro : Int) (no : Nat) (ho : Ro = n ∧ no = n * c) {l : List UInt8} (hl : flat n c (powM a) = l) :
    Calls Try.prog 13 #[fptr (some q), .slice A n ca, .int .i64 C1] w (MatO w0 (some q) R X Ro C1 no l) := by
  obtain ⟨rfl, rfl⟩ := ho
  subst hR; subst hl
  have k : Calls Try.prog 13 #[fptr (some q), .slice A n ca, .int .i64 (c : Int)] w (NewMF w q n c (powM a)) := by
    rcases Nat.eq_zero_or_pos n with h0 | h0
    · exact pow_ok2 w q (h.fld q rfl).2 A a n ca hn c (h.in_ ha) hd h0
    · exact pow_ok1 w q (h.fld q rfl).2 A a n ca hn c (h.in_ ha) hd h0
  exact k.mono fun e w' ⟨A', cap, he, hle, hnw, hF, hf⟩ => ⟨A', cap, he, (h.fr hF hf).new hnw h.lt (by rw [flat_len]; exact hle)⟩
end
theorem Mx_field2 (W : World) (a b : Int) (A : Option Addr) (n c : Nat) : (Instr.field 27 (.agg #[.int .i64 a, .int .i64 b, .slice A n c]) 2).run Try.prog W = .ok (.slice A n c) W := by kernel_rfl
theorem Mx_build1 (W : World) (a : Int) : (Instr.buildSlice 22 1 #[(0, .int .u8 a)]).run Try.prog W = .ok (.slice (some ⟨W.heap.size, 0, none⟩) 1 1) (W.alloc (.cells #[.int .u8 a] 5)) := by kernel_rfl
theorem Mx_build2 (W : World) (a b : Int) : (Instr.buildSlice 22 2 #[(0, .int .u8 a), (1, .int .u8 b)]).run Try.prog W = .ok (.slice (some ⟨W.heap.size, 0, none⟩) 2 2) (W.alloc (.cells #[.int .u8 a, .int .u8 b] 5)) := by kernel_rfl
theorem Mx_build3 (W : World) (a b c : Int) : (Instr.buildSlice 22 3 #[(0, .int .u8 a), (1, .int .u8 b), (2, .int .u8 c)]).run Try.prog W = .ok (.slice (some ⟨W.heap.size, 0, none⟩) 3 3) (W.alloc (.cells #[.int .u8 a, .int .u8 b, .int .u8 c] 5)) := by kernel_rfl
theorem Mx_build4 (W : World) (a b c d : Int) : (Instr.buildSlice 22 4 #[(0, .int .u8 a), (1, .int .u8 b), (2, .int .u8 c), (3, .int .u8 d)]).run Try.prog W = .ok (.slice (some ⟨W.heap.size, 0, none⟩) 4 4) (W.alloc (.cells #[.int .u8 a, .int .u8 b, .int .u8 c, .int .u8 d] 5)) := by kernel_rfl
theorem Mx_build6 (W : World) (a b c d e f : Int) : (Instr.buildSlice 22 6 #[(0, .int .u8 a), (1, .int .u8 b), (2, .int .u8 c), (3, .int .u8 d), (4, .int .u8 e), (5, .int .u8 f)]).run Try.prog W = .ok (.slice (some ⟨W.heap.size, 0, none⟩) 6 6) (W.alloc (.cells #[.int .u8 a, .int .u8 b, .int .u8 c, .int .u8 d, .int .u8 e, .int .u8 f] 5)) := by kernel_rfl
end Go.Proofs.Ythdapoipfnnaeaa.MxW
