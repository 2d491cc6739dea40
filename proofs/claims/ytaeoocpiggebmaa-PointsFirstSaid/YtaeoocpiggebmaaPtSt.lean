/- Points as a law holds them: the rows that there are, each the law's own, and the field; what each call leaves of them. -/
import Derived.Test.YtaeoocpiggebmaaPtGroup
namespace Go.Proofs.Ytaeoocpiggebmaa.PtW
open Go.RowKit Go.Shelf Mem Gf FdW Rng
set_option linter.unusedVariables false

/-- A row: its mark, where it begins, its bytes, its capacity. -/
structure Rw where
  id : Nat
  A : Option Addr
  l : List UInt8
  c : Nat
/-- Since w0 nothing that was there has turned; block p is a field; these rows are there, each in a block of its own. -/
structure PT (w0 : World) (p : Nat) (R : List Rw) (w : World) : Prop where
  p0 : w0.heap.size ≤ p
  fld : Fld w p
  below : Below w0.heap.size w0 w
  rows : ∀ r ∈ R, Mem.Own w w0.heap.size 5 r.A r.c (r.l.map u8v)
  apart : ∀ r ∈ R, ∀ s ∈ R, r.id ≠ s.id → ∀ g, r.A = some ⟨g, 0, none⟩ → s.A ≠ some ⟨g, 0, none⟩
theorem own_ne {w : World} {p base c : Nat} {A : Option Addr} {xs : List Value} (h : Mem.Own w base 5 A c xs) (hp : Fld w p) : ∀ g, A = some ⟨g, 0, none⟩ → g ≠ p := by
  intro g e
  rcases hp with hp | hp <;>
  · obtain ⟨cs, hb, _⟩ := hp
    exact hb.ne_own h (by decide) g e
/-- A new row, with a number. -/
def NewT (w0 : World) (p : Nat) (R : List Rw) (id : Nat) (l : List UInt8) (err : Int) (e : Ending) (w' : World) : Prop := ∃ A c, e = .returned (.tuple #[.slice A l.length c, .int .i64 err]) ∧ PT w0 p (⟨id, A, l, c⟩ :: R) w'
section
variable {w0 w w' : World} {p : Nat} {R : List Rw}
theorem PT.keep (h : PT w0 p R w) (hb : Below w.heap.size w w') : PT w0 p R w' :=
  ⟨h.p0, h.fld.keep hb, h.below.trans (hb.mono h.below.size), fun r hr => (h.rows r hr).keep hb, h.apart⟩
theorem PT.fr (h : PT w0 p R w) (hF : Fld w' p) (hf : Fr (fun k => k = p) w w') : PT w0 p R w' :=
  ⟨h.p0, hF, h.below.trans (hf.below h.below.size fun k hk => by rw [hk]; exact h.p0), fun r hr => (h.rows r hr).fr hf (fun g hg => own_ne (h.rows r hr) h.fld g hg), h.apart⟩
theorem PT.row (h : PT w0 p R w) (hF : Fld w' p) (hf : Fr (fun k => k = p) w w') (id : Nat) {A : Option Addr} {l : List UInt8} {c : Nat} (ho : Mem.Own w' w.heap.size 5 A c (l.map u8v)) : PT w0 p (⟨id, A, l, c⟩ :: R) w' := by
  have h' := h.fr hF hf
  have hold : ∀ r ∈ R, ∀ g, r.A = some ⟨g, 0, none⟩ → A ≠ some ⟨g, 0, none⟩ := fun r hr g hg e => by
    rcases (h.rows r hr).form with ⟨e2, _⟩ | ⟨g2, e2, _, h2, _⟩
    · rw [hg] at e2; cases e2
    · rw [hg] at e2; injection e2 with e2; injection e2 with e2
      rcases ho.form with ⟨e3, _⟩ | ⟨g3, e3, h3, _⟩
      · rw [e] at e3; cases e3
      · rw [e] at e3; injection e3 with e3; injection e3 with e3; omega
  refine ⟨h'.p0, h'.fld, h'.below, fun r hr => ?_, fun r hr s hs hne g hg => ?_⟩
  · rcases List.mem_cons.1 hr with rfl | hr
    · exact ho.down h.below.size
    · exact h'.rows r hr
  · rcases List.mem_cons.1 hr with rfl | hr <;> rcases List.mem_cons.1 hs with rfl | hs
    · exact absurd rfl hne
    · exact fun e => hold s hs g e hg
    · exact hold r hr g hg
    · exact h.apart r hr s hs hne g hg
theorem PT.drop (h : PT w0 p R w) (R' : List Rw) (hR : ∀ r ∈ R', r ∈ R) : PT w0 p R' w := ⟨h.p0, h.fld, h.below, fun r hr => h.rows r (hR r hr), fun r hr s hs => h.apart r (hR r hr) s (hR s hs)⟩
theorem PT.bytes (h : PT w0 p R w) {r : Rw} (hr : r ∈ R) : Bytes w w.heap.size r.A r.l := (h.rows r hr).bytes
/-- The field, new. -/
theorem newT (w : World) : Calls Try.prog 9 #[] w fun e w' => e = .returned (.pointer (some ⟨w.heap.size, 0, none⟩)) ∧ PT w w.heap.size [] w' :=
  (newf_any w).mono fun e w' ⟨he, hF, hb, hs⟩ => ⟨he, ⟨Nat.le_refl _, .inl hF, hb, (fun r hr => by cases hr), (fun r hr => by cases hr)⟩⟩
def ofL (n : Int) : List UInt8 := if 0 ≤ n ∧ n ≤ 255 then pts n.toNat else []
def ofE (n : Int) : Int := if 0 ≤ n ∧ n ≤ 255 then 0 else 2
instance (n al : Int) : Decidable (SprOk n al) := by unfold SprOk; infer_instance
instance (r g : Int) : Decidable (CosOk r g) := by unfold CosOk; infer_instance
def sprL (n al : Int) : List UInt8 := if SprOk n al then pts n.toNat else []
def sprE (n al : Int) : Int := if SprOk n al then 0 else 2
def cosR (r g : Int) : List UInt8 := if CosOk r g then cosL (255 / (r.toNat + 1)) (r.toNat + 1) g.toNat else []
def cosE (r g : Int) : Int := if CosOk r g then 0 else 2
variable (h : PT w0 p R w)
include h
theorem PT.okF (id : Nat) {l : List UInt8} {e : Ending} (k : OfOk w p l e w') : NewT w0 p R id l 0 e w' := by
  obtain ⟨A, c, he, ho, hF, hf⟩ := k
  exact ⟨A, c, he, h.row hF hf id ho⟩
theorem PT.noF (id : Nat) {e : Ending} (k : OfNo w p e w') : NewT w0 p R id [] 2 e w' := by
  obtain ⟨he, hF, hf⟩ := k
  exact ⟨none, 0, he, h.row hF hf id Mem.Own.nil⟩
theorem PT.okR (id : Nat) {l : List UInt8} {e : Ending} (k : ROk w l e w') : NewT w0 p R id l 0 e w' := by
  obtain ⟨A, c, he, ho, hb⟩ := k
  exact ⟨A, c, he, h.row (h.fld.keep hb) (Fr.quiet hb) id ho⟩
theorem PT.noR (id : Nat) {e : Ending} (k : RNo w e w') : NewT w0 p R id [] 2 e w' := by
  obtain ⟨he, hb⟩ := k
  exact ⟨none, 0, he, h.row (h.fld.keep hb) (Fr.quiet hb) id Mem.Own.nil⟩
theorem ofT (id : Nat) (n : Int) : Calls Try.prog 10 #[fptr (some p), .int .i64 n] w (NewT w0 p R id (ofL n) (ofE n)) := by
  by_cases hn : 0 ≤ n ∧ n ≤ 255
  · obtain ⟨m, rfl⟩ : ∃ m : Nat, n = (m : Int) := ⟨n.toNat, by omega⟩
    rw [ofL, ofE, if_pos hn, if_pos hn]
    exact (of_ok w p h.fld m (by omega)).mono fun e w' k => h.okF id k
  · rw [ofL, ofE, if_neg hn, if_neg hn]
    exact (of_bad w p n (by omega)).mono fun e w' k => h.noF id ⟨k.1, by rw [k.2]; exact h.fld, by rw [k.2]; exact Fr.refl _ _⟩
theorem rofT (id : Nat) (n : Int) : Calls Try.prog 11 #[.int .i64 n] w (NewT w0 p R id (ofL n) (ofE n)) := by
  by_cases hn : 0 ≤ n ∧ n ≤ 255
  · obtain ⟨m, rfl⟩ : ∃ m : Nat, n = (m : Int) := ⟨n.toNat, by omega⟩
    rw [ofL, ofE, if_pos hn, if_pos hn]
    exact (refOf_ok w m (by omega)).mono fun e w' k => h.okR id k
  · rw [ofL, ofE, if_neg hn, if_neg hn]
    exact (refOf_bad w n (by omega)).mono fun e w' k => h.noR id k
theorem sprT (id : Nat) (n al : Int) : Calls Try.prog 12 #[fptr (some p), .int .i64 n, .int .i64 al] w (NewT w0 p R id (sprL n al) (sprE n al)) :=
  (spread_any w p h.fld n al).mono fun e w' k => by
    rcases k with ⟨hk, k⟩ | ⟨hk, k⟩
    · rw [sprL, sprE, if_pos hk, if_pos hk]; exact h.okF id k
    · rw [sprL, sprE, if_neg hk, if_neg hk]; exact h.noF id k
theorem rsprT (id : Nat) (n al : Int) : Calls Try.prog 13 #[.int .i64 n, .int .i64 al] w (NewT w0 p R id (sprL n al) (sprE n al)) :=
  (refSpread_any w n al).mono fun e w' k => by
    rcases k with ⟨hk, k⟩ | ⟨hk, k⟩
    · rw [sprL, sprE, if_pos hk, if_pos hk]; exact h.okR id k
    · rw [sprL, sprE, if_neg hk, if_neg hk]; exact h.noR id k
theorem cosT (id : Nat) (r g : Int) : Calls Try.prog 14 #[fptr (some p), .int .i64 r, .int .i64 g] w (NewT w0 p R id (cosR r g) (cosE r g)) :=
  (cosets_any w p h.fld r g).mono fun e w' k => by
    rcases k with ⟨hk, k⟩ | ⟨hk, k⟩
    · rw [cosR, cosE, if_pos hk, if_pos hk]; exact h.okF id k
    · rw [cosR, cosE, if_neg hk, if_neg hk]; exact h.noF id k
theorem rcosT (id : Nat) (r g : Int) : Calls Try.prog 15 #[.int .i64 r, .int .i64 g] w (NewT w0 p R id (cosR r g) (cosE r g)) :=
  (refCosets_any w r g).mono fun e w' k => by
    rcases k with ⟨hk, k⟩ | ⟨hk, k⟩
    · rw [cosR, cosE, if_pos hk, if_pos hk]; exact h.okR id k
    · rw [cosR, cosE, if_neg hk, if_neg hk]; exact h.noR id k
theorem sameT {a b : Rw} (ha : a ∈ R) (hb : b ∈ R) (n : Nat) (hn : n = a.l.length) (m : Nat) (hm : m = b.l.length) (v : Bool) (hv : sameB a.l b.l = v) :
    Calls Try.prog 16 #[.slice a.A n a.c, .slice b.A m b.c] w fun e w' => e = .returned (.bool v) ∧ w = w' := by
  subst hv
  exact same_any w (h.bytes ha) (h.bytes hb) n m a.c b.c hn hm
theorem powT (x : Int) (a : UInt8) (hx : x = (a.toNat : Int)) (n : Int) : Calls Try.prog 21 #[fptr (some p), .int .u8 x, .int .i64 n] w fun e w' => e = .returned (.int .u8 ((pow a n).toNat : Int)) ∧ PT w0 p R w' :=
  (pow_any w (some p) (FldR.some h.fld) x a hx n).mono fun e w' ⟨he, hF, hf⟩ => ⟨he, h.fr (hF p rfl) (hf.mono fun k _ hk => by injection hk with hk; exact hk.symm)⟩
end
end Go.Proofs.Ytaeoocpiggebmaa.PtW
