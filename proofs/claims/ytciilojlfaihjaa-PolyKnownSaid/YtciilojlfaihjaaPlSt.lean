/- Polynomials as a law holds them: the rows that there are, the field; what each call leaves of them. -/
import Derived.Test.YtciilojlfaihjaaPlRefF
namespace Go.Proofs.Ytciilojlfaihjaa.PlW
open Go.RowKit Mem Gf FdW Pl Rng
set_option linter.unusedVariables false

/-- A row: where it begins, its bytes, its capacity, a bound. -/
structure Rw where
  A : Option Addr
  l : List UInt8
  c : Nat
  n : Nat
/-- Since w0 nothing that was there has turned; these rows are there. -/
def PB (w0 : World) (R : List Rw) (w : World) : Prop := Below w0.heap.size w0 w ∧ ∀ r ∈ R, Bytes w w.heap.size r.A r.l ∧ r.l.length ≤ r.c ∧ r.l.length ≤ r.n
/-- .. and block p is a field, in none of them. -/
def PS (w0 : World) (p : Nat) (R : List Rw) (w : World) : Prop := (w0.heap.size ≤ p ∧ Fld w p ∧ Below w0.heap.size w0 w) ∧ ∀ r ∈ R, In w p r.A r.l ∧ r.l.length ≤ r.c ∧ r.l.length ≤ r.n
/-- A new row. -/
def NewR (w0 : World) (p : Nat) (R : List Rw) (l : List UInt8) (n : Nat) (e : Ending) (w' : World) : Prop := ∃ A c, e = .returned (.slice A l.length c) ∧ PS w0 p (⟨A, l, c, n⟩ :: R) w'
def SayR (w0 : World) (p : Nat) (R : List Rw) (v : Value) (e : Ending) (w' : World) : Prop := e = .returned v ∧ PS w0 p R w'
section
variable {w0 w w' : World} {p : Nat} {R : List Rw}
theorem PB.start (w : World) : PB w [] w := ⟨Below.refl _ _, fun _ h => by cases h⟩
theorem PB.keep (h : PB w0 R w) (hb : Below w.heap.size w w') : PB w0 R w' := ⟨h.1.trans (hb.mono h.1.size), fun r hr => ⟨((h.2 r hr).1.below hb).up hb.size, (h.2 r hr).2⟩⟩
theorem PB.arg (h : PB w0 R w) {A : Option Addr} {l : List UInt8} {c : Nat} (n : Nat) (hb : Bytes w0 w0.heap.size A l) (hc : l.length ≤ c) (hn : l.length ≤ n) : PB w0 (⟨A, l, c, n⟩ :: R) w :=
  ⟨h.1, fun r hr => by
    rcases List.mem_cons.1 hr with rfl | hr
    · exact ⟨(hb.below h.1).up h.1.size, hc, hn⟩
    · exact h.2 r hr⟩
theorem PB.row (h : PB w0 R w) {A : Option Addr} {l : List UInt8} {c : Nat} (n : Nat) (hb : Bytes w w.heap.size A l) (hc : l.length ≤ c) (hn : l.length ≤ n) : PB w0 (⟨A, l, c, n⟩ :: R) w :=
  ⟨h.1, fun r hr => by
    rcases List.mem_cons.1 hr with rfl | hr
    · exact ⟨hb, hc, hn⟩
    · exact h.2 r hr⟩
theorem PS.pb (h : PS w0 p R w) : PB w0 R w := ⟨h.1.2.2, fun r hr => ⟨(h.2 r hr).1.1, (h.2 r hr).2⟩⟩
theorem PS.keep (h : PS w0 p R w) (hb : Below w.heap.size w w') : PS w0 p R w' :=
  ⟨⟨h.1.1, h.1.2.1.keep hb, h.1.2.2.trans (hb.mono h.1.2.2.size)⟩, fun r hr => ⟨(h.2 r hr).1.keep hb, (h.2 r hr).2⟩⟩
theorem PS.fr (h : PS w0 p R w) (hF : Fld w' p) (hf : Fr (fun k => k = p) w w') : PS w0 p R w' :=
  ⟨⟨h.1.1, hF, h.1.2.2.trans (hf.below h.1.2.2.size fun k hk => by rw [hk]; exact h.1.1)⟩, fun r hr => ⟨(h.2 r hr).1.field hf, (h.2 r hr).2⟩⟩
theorem PS.row (h : PS w0 p R w) {A : Option Addr} {l : List UInt8} {c base : Nat} (n : Nat) (ho : Mem.Own w base 5 A c (l.map u8v)) (hn : l.length ≤ n) : PS w0 p (⟨A, l, c, n⟩ :: R) w :=
  ⟨h.1, fun r hr => by
    rcases List.mem_cons.1 hr with rfl | hr
    · exact ⟨In.own ho h.1.2.1, by have := ho.le; simpa using this, hn⟩
    · exact h.2 r hr⟩
theorem PS.below (h : PS w0 p R w) : Below w0.heap.size w0 w := h.1.2.2
theorem PS.drop (h : PS w0 p R w) (R' : List Rw) (hR : ∀ r ∈ R', r ∈ R) : PS w0 p R' w := ⟨h.1, fun r hr => h.2 r (hR r hr)⟩
theorem PS.newOk {l : List UInt8} {n : Nat} {e : Ending} (h : PS w0 p R w) (hn : l.length ≤ n) (k : NewOk w l e w') : NewR w0 p R l n e w' := by
  obtain ⟨A, c, he, ho, hb⟩ := k
  exact ⟨A, c, he, (h.keep hb).row n ho hn⟩
theorem PS.newF {l : List UInt8} {n : Nat} {e : Ending} (h : PS w0 p R w) (hn : l.length ≤ n) (k : NewF w p l e w') : NewR w0 p R l n e w' := by
  obtain ⟨A, c, he, ho, hF, hf⟩ := k
  exact ⟨A, c, he, (h.fr hF hf).row n ho hn⟩
theorem newP (h : PB w0 R w) : Calls Try.prog 13 #[] w fun e w' => e = .returned (.pointer (some ⟨w.heap.size, 0, none⟩)) ∧ PS w0 w.heap.size R w' :=
  (newf_any w).mono fun e w' ⟨he, hF, hb, hs⟩ => ⟨he, ⟨h.1.size, .inl hF, h.1.trans (hb.mono h.1.size)⟩, fun r hr => ⟨⟨((h.2 r hr).1.below hb).up hb.size, fun b o e hl hbp => by
    obtain ⟨b', o', e', hlt, _⟩ := (h.2 r hr).1 (by simpa using hl)
    rw [e] at e'; injection e' with e'; injection e' with e' _
    omega⟩, (h.2 r hr).2⟩⟩

variable (h : PS w0 p R w)
include h
section
variable {A B : Option Addr} {a b : List UInt8} {ca cb na nb : Nat}
theorem trimR (ha : ⟨A, a, ca, na⟩ ∈ R) (n : Nat) (hn : n = a.length) (hna : na ≤ 1000) : Calls Try.prog 16 #[.slice A n ca] w (NewR w0 p R (trim a) na) :=
  (trim_any w A a n ca hn (by have := (h.2 _ ha).2.2; dsimp only at this; omega) (h.2 _ ha).2.1 (h.2 _ ha).1.1).mono fun e w' k => h.newOk (Nat.le_trans (trim_len a) (h.2 _ ha).2.2) k
theorem rtrimR (ha : ⟨A, a, ca, na⟩ ∈ R) (n : Nat) (hn : n = a.length) (hna : na ≤ 1000) : Calls Try.prog 18 #[.slice A n ca] w (NewR w0 p R (trim a) na) :=
  (rpTrim_any w A a n ca hn (by have := (h.2 _ ha).2.2; dsimp only at this; omega) (h.2 _ ha).2.1 (h.2 _ ha).1.1).mono fun e w' k => h.newOk (Nat.le_trans (trim_len a) (h.2 _ ha).2.2) k
theorem degR (ha : ⟨A, a, ca, na⟩ ∈ R) (n : Nat) (hn : n = a.length) (hna : na ≤ 1000) : Calls Try.prog 19 #[.slice A n ca] w (SayR w0 p R (.int .i64 ((len a : Int) - 1))) := by
  subst hn
  exact (degree_any w A ca a (by have := (h.2 _ ha).2.2; dsimp only at this; omega) (h.2 _ ha).1.1).mono fun e w' ⟨he, hb⟩ => ⟨he, h.keep hb⟩
theorem addR (ha : ⟨A, a, ca, na⟩ ∈ R) (n : Nat) (hn : n = a.length) (hb : ⟨B, b, cb, nb⟩ ∈ R) (m : Nat) (hm : m = b.length) (hna : na ≤ 1000) (hnb : nb ≤ 1000) (N : Nat) (hN : na ≤ N ∧ nb ≤ N) :
    Calls Try.prog 20 #[.slice A n ca, .slice B m cb] w (NewR w0 p R (trim (add a b)) N) := by
  have h1 := (h.2 _ ha).2.2; have h2 := (h.2 _ hb).2.2
  dsimp only at h1 h2
  exact (padd_any w A a n ca hn B b m cb hm (by omega) (by omega) (h.2 _ ha).1.1 (h.2 _ hb).1.1).mono fun e w' k => h.newOk (by have := add_len_le a b; omega) k
theorem raddR (ha : ⟨A, a, ca, na⟩ ∈ R) (n : Nat) (hn : n = a.length) (hb : ⟨B, b, cb, nb⟩ ∈ R) (m : Nat) (hm : m = b.length) (hna : na ≤ 1000) (hnb : nb ≤ 1000) (N : Nat) (hN : na ≤ N ∧ nb ≤ N) :
    Calls Try.prog 21 #[.slice A n ca, .slice B m cb] w (NewR w0 p R (trim (add a b)) N) := by
  have h1 := (h.2 _ ha).2.2; have h2 := (h.2 _ hb).2.2
  dsimp only at h1 h2
  exact (rpAdd_any w A a n ca hn B b m cb hm (by omega) (by omega) (h.2 _ ha).1.1 (h.2 _ hb).1.1).mono fun e w' k => h.newOk (by have := add_len_le a b; omega) k
omit h in
theorem mul_len_le (a b : List UInt8) : (trim (mulP a b)).length ≤ a.length + b.length := by
  have h1 := len_mul_le a b; have h2 := len_le a; have h3 := len_le b
  have h4 : (trim (mulP a b)).length = len (mulP a b) := rfl
  omega
theorem mulR (ha : ⟨A, a, ca, na⟩ ∈ R) (n : Nat) (hn : n = a.length) (hb : ⟨B, b, cb, nb⟩ ∈ R) (m : Nat) (hm : m = b.length) (hnn : na + nb ≤ 1000) (N : Nat) (hN : na + nb ≤ N) :
    Calls Try.prog 22 #[fptr (some p), .slice A n ca, .slice B m cb] w (NewR w0 p R (trim (mulP a b)) N) := by
  have h1 := (h.2 _ ha).2.2; have h2 := (h.2 _ hb).2.2
  dsimp only at h1 h2
  exact (pmul_any w p h.1.2.1 A a n ca hn B b m cb hm (by omega) (h.2 _ ha).1 (h.2 _ hb).1).mono fun e w' k => h.newF (by have := mul_len_le a b; omega) k
theorem rmulR (ha : ⟨A, a, ca, na⟩ ∈ R) (n : Nat) (hn : n = a.length) (hb : ⟨B, b, cb, nb⟩ ∈ R) (m : Nat) (hm : m = b.length) (hnn : na + nb ≤ 1000) (N : Nat) (hN : na + nb ≤ N) :
    Calls Try.prog 23 #[.slice A n ca, .slice B m cb] w (NewR w0 p R (trim (mulP a b)) N) := by
  have h1 := (h.2 _ ha).2.2; have h2 := (h.2 _ hb).2.2
  dsimp only at h1 h2
  exact (rpMul_any w A a n ca hn B b m cb hm (by omega) (h.2 _ ha).1.1 (h.2 _ hb).1.1).mono fun e w' k => h.newOk (by have := mul_len_le a b; omega) k
theorem atR (ha : ⟨A, a, ca, na⟩ ∈ R) (n : Nat) (hn : n = a.length) (hna : na ≤ 1000) (x0 : Int) (x : UInt8) (hx : x0 = (x.toNat : Int)) :
    Calls Try.prog 26 #[fptr (some p), .slice A n ca, .int .u8 x0] w (SayR w0 p R (.int .u8 ((ev a x).toNat : Int))) := by
  have h1 := (h.2 _ ha).2.2
  dsimp only at h1
  exact (at_any w p h.1.2.1 A a n ca hn (by omega) (h.2 _ ha).1 x0 x hx).mono fun e w' ⟨he, hF, hf⟩ => ⟨he, h.fr (hF p rfl) (hf.mono fun k _ hk => by injection hk with hk; exact hk.symm)⟩
theorem ratR (ha : ⟨A, a, ca, na⟩ ∈ R) (n : Nat) (hn : n = a.length) (hna : na ≤ 1000) (x0 : Int) (x : UInt8) (hx : x0 = (x.toNat : Int)) :
    Calls Try.prog 27 #[.slice A n ca, .int .u8 x0] w fun e w' => e = .returned (.int .u8 ((ev a x).toNat : Int)) ∧ w = w' := by
  have h1 := (h.2 _ ha).2.2
  dsimp only at h1
  exact rpAt_any w A a n ca hn (by omega) (h.2 _ ha).1.1 x0 x hx
omit h in
theorem roots_len_le (a : List UInt8) : (trim (rootsP a)).length ≤ a.length + 1 := by
  have h4 : (trim (rootsP a)).length = len (rootsP a) := rfl
  rw [h4, rootsP_len]; exact Nat.le_refl _
theorem rootsR (ha : ⟨A, a, ca, na⟩ ∈ R) (n : Nat) (hn : n = a.length) (hna : na ≤ 300) (N : Nat) (hN : na + 1 ≤ N) : Calls Try.prog 28 #[fptr (some p), .slice A n ca] w (NewR w0 p R (trim (rootsP a)) N) := by
  have h1 := (h.2 _ ha).2.2
  dsimp only at h1
  exact (roots_any w p h.1.2.1 A a n ca hn (by omega) (h.2 _ ha).1).mono fun e w' k => h.newF (by have := roots_len_le a; omega) k
theorem rrootsR (ha : ⟨A, a, ca, na⟩ ∈ R) (n : Nat) (hn : n = a.length) (hna : na ≤ 300) (N : Nat) (hN : na + 1 ≤ N) : Calls Try.prog 29 #[.slice A n ca] w (NewR w0 p R (trim (rootsP a)) N) := by
  have h1 := (h.2 _ ha).2.2
  dsimp only at h1
  exact (rpRoots_any w A a n ca hn (by omega) (h.2 _ ha).1.1).mono fun e w' k => h.newOk (by have := roots_len_le a; omega) k
theorem sameR (ha : ⟨A, a, ca, na⟩ ∈ R) (n : Nat) (hn : n = a.length) (hb : ⟨B, b, cb, nb⟩ ∈ R) (m : Nat) (hm : m = b.length) (v : Bool) (hv : sameB a b = v) :
    Calls Try.prog 17 #[.slice A n ca, .slice B m cb] w fun e w' => e = .returned (.bool v) ∧ w = w' := by
  subst hv
  exact same_any w (h.2 _ ha).1.1 (h.2 _ hb).1.1 n m ca cb hn hm
omit h in
theorem divok_len {a b q r : List UInt8} (h : DivOk a b q r) : len q ≤ len a ∧ len r ≤ len a := by
  obtain ⟨h1, h2⟩ := h
  by_cases hq : len q = 0
  · have : Eqv a r := h1.trans (fun i => by rw [cf_add, mulP_zeros b (fun i => len_zero.1 hq i), cf_nil, UInt8.zero_xor])
    rw [len_congr this]; omega
  · have hm := len_mul (a := q) (b := b) hq (by omega)
    have : len a = len (mulP q b) := by
      have e1 := len_congr h1
      rw [e1]
      refine len_eq (n := len (mulP q b) - 1) (fun i hi => ?_) ?_ |>.trans (by omega)
      · rw [cf_add, cf_len (l := mulP q b) (by omega), cf_len (l := r) (by omega)]; rfl
      · rw [cf_add, cf_len (l := r) (by omega), Pl.xor_zero]
        exact len_last (by omega)
    omega
/-- What a division leaves. -/
def DivR (w0 : World) (p : Nat) (R : List Rw) (a b : List UInt8) (N : Nat) (e : Ending) (w' : World) : Prop :=
  ∃ q r A c B d, DivOk a b q r ∧ e = .returned (.tuple #[.slice A (trim q).length c, .slice B (trim r).length d, .int .i64 0]) ∧ PS w0 p (⟨A, trim q, c, N⟩ :: ⟨B, trim r, d, N⟩ :: R) w'
theorem divR (ha : ⟨A, a, ca, na⟩ ∈ R) (n : Nat) (hn : n = a.length) (hb : ⟨B, b, cb, nb⟩ ∈ R) (m : Nat) (hm : m = b.length) (hna : na ≤ 300) (hnb : nb ≤ 300) (h0 : len b ≠ 0) (N : Nat) (hN : na ≤ N) :
    Calls Try.prog 14 #[fptr (some p), .slice A n ca, .slice B m cb] w (DivR w0 p R a b N) := by
  have h1 := (h.2 _ ha).2; have h2 := (h.2 _ hb).2
  dsimp only at h1 h2
  refine (div_some w p h.1.2.1 A a n ca hn B b m cb hm (by omega) (by omega) h1.1 h2.1 (h.2 _ ha).1 (h.2 _ hb).1 h0).mono fun e w' k => ?_
  obtain ⟨q, r, Q, c, S, d, hd, he, ho1, ho2, hF, hf⟩ := k
  have hl := divok_len hd
  have hl2 := len_le a
  exact ⟨q, r, Q, c, S, d, hd, he, ((h.fr hF hf).row N ho2 (by have : (trim r).length = len r := rfl; omega)).row N ho1 (by have : (trim q).length = len q := rfl; omega)⟩
theorem div0R (hb : ⟨B, b, cb, nb⟩ ∈ R) (n : Nat) (m : Nat) (hm : m = b.length) (hnb : nb ≤ 300) (h0 : len b = 0) :
    Calls Try.prog 14 #[fptr (some p), .slice A n ca, .slice B m cb] w (SayR w0 p R (.tuple #[.slice none 0 0, .slice none 0 0, .int .i64 30])) := by
  have h2 := (h.2 _ hb).2
  dsimp only at h2
  exact (div_none w p h.1.2.1 A [] n ca B b m cb hm (by omega) h2.1 (h.2 _ hb).1 h0).mono fun e w' ⟨he, hF, hf⟩ => ⟨he, h.fr hF hf⟩
theorem rdivR (ha : ⟨A, a, ca, na⟩ ∈ R) (n : Nat) (hn : n = a.length) (hb : ⟨B, b, cb, nb⟩ ∈ R) (m : Nat) (hm : m = b.length) (hna : na ≤ 300) (hnb : nb ≤ 300) (h0 : len b ≠ 0) (N : Nat) (hN : na ≤ N) :
    Calls Try.prog 15 #[.slice A n ca, .slice B m cb] w (DivR w0 p R a b N) := by
  have h1 := (h.2 _ ha).2; have h2 := (h.2 _ hb).2
  dsimp only at h1 h2
  refine (rpDiv_any w A a n ca hn B b m cb hm (by omega) (by omega) h1.1 h2.1 (h.2 _ ha).1.1 (h.2 _ hb).1.1 h0).mono fun e w' k => ?_
  obtain ⟨q, r, Q, c, S, d, hd, he, ho1, ho2, hf⟩ := k
  have hl := divok_len hd
  have hl2 := len_le a
  exact ⟨q, r, Q, c, S, d, hd, he, ((h.keep hf).row N ho2 (by have : (trim r).length = len r := rfl; omega)).row N ho1 (by have : (trim q).length = len q := rfl; omega)⟩
theorem rdiv0R (hb : ⟨B, b, cb, nb⟩ ∈ R) (n : Nat) (m : Nat) (hm : m = b.length) (hnb : nb ≤ 300) (h0 : len b = 0) :
    Calls Try.prog 15 #[.slice A n ca, .slice B m cb] w (SayR w0 p R (.tuple #[.slice none 0 0, .slice none 0 0, .int .i64 30])) := by
  have h2 := (h.2 _ hb).2
  dsimp only at h2
  exact (rpDiv_none w A [] n ca B b m cb hm (by omega) h2.1 (h.2 _ hb).1.1 h0).mono fun e w' ⟨he, hf⟩ => ⟨he, h.keep hf⟩
/-- What goes through some values. -/
def ThrR (w0 : World) (p : Nat) (R : List Rw) (xs ys : List UInt8) (N : Nat) (e : Ending) (w' : World) : Prop :=
  ∃ P A c, ThrOk xs ys P ∧ trim P = P ∧ e = .returned (.tuple #[.slice A P.length c, .int .i64 0]) ∧ PS w0 p (⟨A, P, c, N⟩ :: R) w'
theorem thrR (ha : ⟨A, a, ca, na⟩ ∈ R) (n : Nat) (hn : n = a.length) (hb : ⟨B, b, cb, nb⟩ ∈ R) (m : Nat) (hm : m = b.length) (hna : na ≤ 300) (hg : Good a b) (N : Nat) (hN : na ≤ N) :
    Calls Try.prog 24 #[fptr (some p), .slice A n ca, .slice B m cb] w (ThrR w0 p R a b N) := by
  have h1 := (h.2 _ ha).2; have h2 := (h.2 _ hb).2
  dsimp only at h1 h2
  refine (thr_any w p h.1.2.1 A a n ca hn B b m cb hm (by omega) (h.2 _ ha).1 (h.2 _ hb).1).mono fun e w' k => ?_
  obtain ⟨k | k, hF, hf⟩ := k
  · obtain ⟨_, P, A', c, h3, h4, he, ho⟩ := k
    exact ⟨P, A', c, h3, h4, he, (h.fr hF hf).row N ho (by rw [← h4]; exact Nat.le_trans h3.1 (by omega))⟩
  · exact absurd hg k.1
theorem thr0R (ha : ⟨A, a, ca, na⟩ ∈ R) (n : Nat) (hn : n = a.length) (hb : ⟨B, b, cb, nb⟩ ∈ R) (m : Nat) (hm : m = b.length) (hna : na ≤ 300) (hg : ¬ Good a b) :
    Calls Try.prog 24 #[fptr (some p), .slice A n ca, .slice B m cb] w (SayR w0 p R (.tuple #[.slice none 0 0, .int .i64 2])) := by
  have h1 := (h.2 _ ha).2
  dsimp only at h1
  refine (thr_any w p h.1.2.1 A a n ca hn B b m cb hm (by omega) (h.2 _ ha).1 (h.2 _ hb).1).mono fun e w' k => ?_
  obtain ⟨k | k, hF, hf⟩ := k
  · exact absurd k.1 hg
  · exact ⟨k.2, h.fr hF hf⟩
theorem rthrR (ha : ⟨A, a, ca, na⟩ ∈ R) (n : Nat) (hn : n = a.length) (hb : ⟨B, b, cb, nb⟩ ∈ R) (m : Nat) (hm : m = b.length) (hna : na ≤ 300) (hg : Good a b) (N : Nat) (hN : na ≤ N) :
    Calls Try.prog 25 #[.slice A n ca, .slice B m cb] w (ThrR w0 p R a b N) := by
  have h1 := (h.2 _ ha).2; have h2 := (h.2 _ hb).2
  dsimp only at h1 h2
  refine (rpThr_any w A a n ca hn B b m cb hm (by omega) h1.1 (h.2 _ ha).1.1 (h.2 _ hb).1.1).mono fun e w' k => ?_
  obtain ⟨k | k, hf⟩ := k
  · obtain ⟨_, P, A', c, h3, h4, he, ho⟩ := k
    exact ⟨P, A', c, h3, h4, he, (h.keep hf).row N ho (by rw [← h4]; exact Nat.le_trans h3.1 (by omega))⟩
  · exact absurd hg k.1
theorem rthr0R (ha : ⟨A, a, ca, na⟩ ∈ R) (n : Nat) (hn : n = a.length) (hb : ⟨B, b, cb, nb⟩ ∈ R) (m : Nat) (hm : m = b.length) (hna : na ≤ 300) (hg : ¬ Good a b) :
    Calls Try.prog 25 #[.slice A n ca, .slice B m cb] w (SayR w0 p R (.tuple #[.slice none 0 0, .int .i64 2])) := by
  have h1 := (h.2 _ ha).2
  dsimp only at h1
  refine (rpThr_any w A a n ca hn B b m cb hm (by omega) h1.1 (h.2 _ ha).1.1 (h.2 _ hb).1.1).mono fun e w' k => ?_
  obtain ⟨k | k, hf⟩ := k
  · exact absurd k.1 hg
  · exact ⟨k.2, h.keep hf⟩
end
/-- A literal of one or two bytes. -/
theorem lit1 (c : UInt8) : PS w0 p (⟨some ⟨w.heap.size, 0, none⟩, [c], 1, 1⟩ :: R) (w.alloc (.cells #[.int .u8 (c.toNat : Int)] 5)) := (h.keep (nextA (Mem.start w) _)).row 1 (own1 w c) (Nat.le_refl _)
theorem lit2 (c d : UInt8) : PS w0 p (⟨some ⟨w.heap.size, 0, none⟩, [c, d], 2, 2⟩ :: R) (w.alloc (.cells #[.int .u8 (c.toNat : Int), .int .u8 (d.toNat : Int)] 5)) := (h.keep (nextA (Mem.start w) _)).row 2 (own2 w c d) (Nat.le_refl _)
theorem lit3 (c d e : UInt8) : PS w0 p (⟨some ⟨w.heap.size, 0, none⟩, [c, d, e], 3, 3⟩ :: R) (w.alloc (.cells #[.int .u8 (c.toNat : Int), .int .u8 (d.toNat : Int), .int .u8 (e.toNat : Int)] 5)) :=
  (h.keep (nextA (Mem.start w) _)).row 3 (own_made w #[.int .u8 (c.toNat : Int), .int .u8 (d.toNat : Int), .int .u8 (e.toNat : Int)] _ (by simp [maxLen]) (Nat.le_refl _)) (Nat.le_refl _)
theorem PS.nilR : PS w0 p (⟨none, [], 0, 0⟩ :: R) w := h.row 0 (base := 0) (Mem.Own.nil) (Nat.le_refl _)
end
theorem build3 (W : World) (u v x : Int) : (Instr.buildSlice 22 3 #[(0, .int .u8 u), (1, .int .u8 v), (2, .int .u8 x)]).run Try.prog W = .ok (.slice (some ⟨W.heap.size, 0, none⟩) 3 3) (W.alloc (.cells #[.int .u8 u, .int .u8 v, .int .u8 x] 5)) := by kernel_rfl
end Go.Proofs.Ytciilojlfaihjaa.PlW
