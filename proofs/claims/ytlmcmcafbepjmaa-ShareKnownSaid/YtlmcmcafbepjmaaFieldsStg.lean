/- Writers and readers as a law holds them: what they are, and what has turned since a stage began. -/
import Derived.Test.YtlmcmcafbepjmaaFieldsApi
namespace Go.Proofs.Ytlmcmcafbepjmaa.FdW
open Go.RowKit Mem Fds
set_option linter.unusedVariables false

/-- Since w0 nothing that was there has turned but the writer at p, which has the bytes l. -/
def Stg (base : Nat) (w0 : World) (p : Nat) (l : List UInt8) (w : World) : Prop :=
  ∃ A c, Wr w base p A c l ∧ Fr (fun k => k = p) w0 w ∧ ∀ g, A = some ⟨g, 0, none⟩ → w0.heap.size ≤ g
theorem wr_form {w : World} {base p : Nat} {A : Option Addr} {c : Nat} {l : List UInt8} (h : Wr w base p A c l) {k : Nat} (hk : WrS p A k) : k = p ∨ A = some ⟨k, 0, none⟩ := by
  rcases hk with rfl | hk
  · exact .inl rfl
  · rcases h.own.form with ⟨rfl, _⟩ | ⟨g, rfl, _⟩
    · cases hk
    · injection hk with hk
      exact .inr (by rw [← hk])
theorem Stg.start {base p : Nat} {w : World} (hb : Blk w p 50 #[.slice none 0 0]) (h : base ≤ p) : Stg base w p [] w :=
  ⟨none, 0, ⟨hb, Own.nil, h⟩, Fr.refl _ _, fun g hg => by cases hg⟩
theorem Stg.step {base p : Nat} {w0 w : World} {l : List UInt8} (h : Stg base w0 p l w) : ∃ A c, Wr w base p A c l ∧ ∀ l' e w', PutOk w base p A l' e w' → e = .returned (.tuple #[]) ∧ Stg base w0 p l' w' := by
  obtain ⟨A, c, hw, hf, hA⟩ := h
  refine ⟨A, c, hw, ?_⟩
  rintro l' e w' ⟨rfl, A', c', hw', hf', hA'⟩
  refine ⟨rfl, A', c', hw', hf.trans hf' fun i hi hs => ?_, fun g hg => ?_⟩
  · rcases wr_form hw hs with h | h
    · exact h
    · exact absurd (hA i h) (by omega)
  · rcases hA' g hg with h | h
    · exact hA g h
    · exact Nat.le_trans hf.size h
theorem Stg.keep {base p : Nat} {w0 w w' : World} {l : List UInt8} (h : Stg base w0 p l w) (hb : Below w.heap.size w w') : Stg base w0 p l w' := by
  obtain ⟨A, c, hw, hf, hA⟩ := h
  exact ⟨A, c, ⟨hw.blk.keep hb, hw.own.keep hb, hw.at_⟩, hf.trans (Fr.quiet (S := fun _ => False) hb) (fun _ _ h => h.elim), hA⟩
theorem Stg.fr {base p : Nat} {w0 w : World} {l : List UInt8} (h : Stg base w0 p l w) : Fr (fun k => k = p) w0 w := by
  obtain ⟨A, c, hw, hf, hA⟩ := h; exact hf
theorem Stg.blk {base p : Nat} {w0 w : World} {l : List UInt8} (h : Stg base w0 p l w) : ∃ cs, Blk w p 50 cs := by
  obtain ⟨A, c, hw, hf, hA⟩ := h; exact ⟨_, hw.blk⟩
/-- A writer with the bytes l. -/
def Has (base p : Nat) (l : List UInt8) (w : World) : Prop := ∃ A c, Wr w base p A c l
theorem Stg.has {base p : Nat} {w0 w : World} {l : List UInt8} (h : Stg base w0 p l w) : Has base p l w := by
  obtain ⟨A, c, hw, hf, hA⟩ := h; exact ⟨A, c, hw⟩
theorem Has.keep {base p : Nat} {w w' : World} {l : List UInt8} (h : Has base p l w) (hb : Below w.heap.size w w') : Has base p l w' := by
  obtain ⟨A, c, hw⟩ := h
  exact ⟨A, c, hw.blk.keep hb, hw.own.keep hb, hw.at_⟩
theorem Has.other {base p q : Nat} {w w' : World} {l : List UInt8} {T : TypeId} {cs : Array Value} (h : Has base p l w) (hf : Fr (fun k => k = q) w w') (hq : Blk w q T cs) (hT : T ≠ 5) (hne : p ≠ q) : Has base p l w' := by
  obtain ⟨A, c, hw⟩ := h
  exact ⟨A, c, hw.blk.fr hf hne, hw.own.fr hf fun g hg e => hq.ne_own hw.own hT g hg e, hw.at_⟩

theorem byte_stg {base p : Nat} {w0 w : World} {l : List UInt8} (h : Stg base w0 p l w) (hlen : l.length ≤ 1000000) (v : Int) (n : Nat) (hv : v = (n : Int)) (hn : n < 256 ^ 1) :
    Calls Try.prog 23 #[.pointer (some ⟨p, 0, none⟩), .int .u8 v] w (fun e w' => e = .returned (.tuple #[]) ∧ Stg base w0 p (l ++ be 1 n) w') := by
  subst hv
  obtain ⟨A, c, hw, k⟩ := h.step
  exact (byte_any w base p A c l n hn hw hlen).mono fun e w' hp => k _ _ _ hp
theorem word_stg {base p : Nat} {w0 w : World} {l : List UInt8} (h : Stg base w0 p l w) (hlen : l.length ≤ 1000000) (v : Int) (n : Nat) (hv : v = (n : Int)) (hn : n < 256 ^ 4) :
    Calls Try.prog 26 #[.pointer (some ⟨p, 0, none⟩), .int .u32 v] w (fun e w' => e = .returned (.tuple #[]) ∧ Stg base w0 p (l ++ be 4 n) w') := by
  subst hv
  obtain ⟨A, c, hw, k⟩ := h.step
  exact (word_any w base p A c l n hn hw hlen).mono fun e w' hp => k _ _ _ hp
theorem long_stg {base p : Nat} {w0 w : World} {l : List UInt8} (h : Stg base w0 p l w) (hlen : l.length ≤ 1000000) (v : Int) (n : Nat) (hv : v = (n : Int)) (hn : n < 256 ^ 8) :
    Calls Try.prog 25 #[.pointer (some ⟨p, 0, none⟩), .int .u64 v] w (fun e w' => e = .returned (.tuple #[]) ∧ Stg base w0 p (l ++ be 8 n) w') := by
  subst hv
  obtain ⟨A, c, hw, k⟩ := h.step
  exact (long_any w base p A c l n hn hw hlen).mono fun e w' hp => k _ _ _ hp
theorem raw_stg {base p : Nat} {w0 w : World} {l : List UInt8} (h : Stg base w0 p l w) (hlen : l.length ≤ 1000000) (B : Option Addr) (b : List UInt8) (n d : Nat) (hn : n = b.length) (hb : n ≤ 1000000) (hB : Bytes w w.heap.size B b) :
    Calls Try.prog 24 #[.pointer (some ⟨p, 0, none⟩), .slice B n d] w (fun e w' => e = .returned (.tuple #[]) ∧ Stg base w0 p (l ++ b) w') := by
  obtain ⟨A, c, hw, k⟩ := h.step
  exact (raw_any w base p A c l hw hlen B b n d hn hb hB).mono fun e w' hp => k _ _ _ hp
theorem out_has {base p : Nat} {w : World} {l : List UInt8} (h : Has base p l w) (hlen : l.length ≤ 100000000) :
    Calls Try.prog 28 #[.pointer (some ⟨p, 0, none⟩)] w (NewOk w l) := by
  obtain ⟨A, c, hw⟩ := h
  exact out_any w base p A c l hw hlen

/-- Since w0 nothing that was there has turned but the reader at p: it has the bytes l, stands at k, and has failed or not. -/
def Sr (base : Nat) (w0 : World) (p : Nat) (l : List UInt8) (k : Nat) (f : Bool) (w : World) : Prop :=
  (∃ A c, Rd w base p A c l k f) ∧ Fr (fun i => i = p) w0 w
/-- A reader. -/
def HasR (base p : Nat) (l : List UInt8) (k : Nat) (f : Bool) (w : World) : Prop := ∃ A c, Rd w base p A c l k f
theorem HasR.keep {base p k : Nat} {f : Bool} {w w' : World} {l : List UInt8} (h : HasR base p l k f w) (hb : Below w.heap.size w w') : HasR base p l k f w' := by
  obtain ⟨A, c, hw⟩ := h; exact ⟨A, c, hw.keep hb⟩
theorem HasR.lt {base p k : Nat} {f : Bool} {w : World} {l : List UInt8} (h : HasR base p l k f w) : p < w.heap.size := by
  obtain ⟨A, c, hw⟩ := h; exact hw.blk.lt
theorem HasR.at_ {base p k : Nat} {f : Bool} {w : World} {l : List UInt8} (h : HasR base p l k f w) : base ≤ p := by
  obtain ⟨A, c, hw⟩ := h; exact hw.at_
theorem HasR.blk {base p k : Nat} {f : Bool} {w : World} {l : List UInt8} (h : HasR base p l k f w) : ∃ cs, Blk w p 85 cs := by
  obtain ⟨A, c, hw⟩ := h; exact ⟨_, hw.blk⟩
theorem HasR.down {base base' p k : Nat} {f : Bool} {w : World} {l : List UInt8} (h : HasR base p l k f w) (hb : base' ≤ base) : HasR base' p l k f w := by
  obtain ⟨A, c, hw⟩ := h; exact ⟨A, c, hw.blk, hw.own.down hb, Nat.le_trans hb hw.at_, hw.le, hw.few⟩
theorem HasR.other {base p q k : Nat} {f : Bool} {w w' : World} {l : List UInt8} {T : TypeId} {cs : Array Value} (h : HasR base p l k f w) (hf : Fr (fun k => k = q) w w') (hq : Blk w q T cs) (hT : T ≠ 5) (hne : p ≠ q) : HasR base p l k f w' := by
  obtain ⟨A, c, hw⟩ := h
  exact ⟨A, c, hw.fr hf hne fun g hg e => hq.ne_own hw.own hT g hg e⟩
/-- What a reading leaves. -/
def ReadOk (kd : IntKind) (w : World) (base p : Nat) (l : List UInt8) (k : Nat) (f : Bool) (n : Int) (e : Ending) (w' : World) : Prop :=
  e = .returned (.int kd ((num (got l k f n) : Nat) : Int)) ∧ HasR base p l (goes l k f n) (bad l k f n) w' ∧ Fr (fun i => i = p) w w'
theorem GetOk.read {kd : IntKind} {w w' : World} {base p : Nat} {A : Option Addr} {c : Nat} {l : List UInt8} {k : Nat} {f : Bool} {n : Int} {e : Ending} (h : GetOk kd w base p A c l k f n e w') : ReadOk kd w base p l k f n e w' :=
  ⟨h.1, ⟨A, c, h.2.1⟩, h.2.2⟩
theorem rbyte_has {base p k : Nat} {f : Bool} {w : World} {l : List UInt8} (h : HasR base p l k f w) :
    Calls Try.prog 44 #[.pointer (some ⟨p, 0, none⟩)] w (ReadOk .u8 w base p l k f 1) := by
  obtain ⟨A, c, h⟩ := h; exact (rbyte_any w base p A c l k f h).mono fun _ _ => GetOk.read
theorem rword_has {base p k : Nat} {f : Bool} {w : World} {l : List UInt8} (h : HasR base p l k f w) :
    Calls Try.prog 46 #[.pointer (some ⟨p, 0, none⟩)] w (ReadOk .u32 w base p l k f 4) := by
  obtain ⟨A, c, h⟩ := h; exact (rword_any w base p A c l k f h).mono fun _ _ => GetOk.read
theorem rlong_has {base p k : Nat} {f : Bool} {w : World} {l : List UInt8} (h : HasR base p l k f w) :
    Calls Try.prog 45 #[.pointer (some ⟨p, 0, none⟩)] w (ReadOk .u64 w base p l k f 8) := by
  obtain ⟨A, c, h⟩ := h; exact (rlong_any w base p A c l k f h).mono fun _ _ => GetOk.read
theorem bad_has {base p k : Nat} {f : Bool} {w : World} {l : List UInt8} (h : HasR base p l k f w) :
    Calls Try.prog 47 #[.pointer (some ⟨p, 0, none⟩)] w fun e w' => e = .returned (.bool f) ∧ w = w' := by
  obtain ⟨A, c, h⟩ := h; exact bad_any w base p A c l k f h
theorem left_has {base p k : Nat} {f : Bool} {w : World} {l : List UInt8} (h : HasR base p l k f w) :
    Calls Try.prog 48 #[.pointer (some ⟨p, 0, none⟩)] w fun e w' => e = .returned (.int .i64 ((left l k f : Nat) : Int)) ∧ Below w.heap.size w w' := by
  obtain ⟨A, c, h⟩ := h; exact left_any w base p A c l k f h
/-- What a raw reading leaves. -/
def TakeOk (w : World) (base p : Nat) (l : List UInt8) (k : Nat) (f : Bool) (n : Int) (e : Ending) (w' : World) : Prop :=
  ∃ A c, e = .returned (.slice A (got l k f n).length c) ∧ Own w' w.heap.size 5 A c ((got l k f n).map u8v) ∧ HasR base p l (goes l k f n) (bad l k f n) w' ∧ Fr (fun i => i = p) w w'
theorem rraw_has {base p k : Nat} {f : Bool} {w : World} {l : List UInt8} (n : Int) (h : HasR base p l k f w) :
    Calls Try.prog 43 #[.pointer (some ⟨p, 0, none⟩), .int .i64 n] w (TakeOk w base p l k f n) := by
  obtain ⟨A, c, h⟩ := h
  exact (rraw_any w base p A c l k f n h).mono fun e w' ⟨A', c', he, ho, hr, hf⟩ => ⟨A', c', he, ho, ⟨A, c, hr⟩, hf⟩
/-- What Open leaves. -/
def MadeOk (w : World) (l : List UInt8) (e : Ending) (w' : World) : Prop :=
  ∃ p, e = .returned (.pointer (some ⟨p, 0, none⟩)) ∧ HasR w.heap.size p l 0 false w' ∧ Below w.heap.size w w'
theorem open_has (w : World) (A : Option Addr) (l : List UInt8) (n c : Nat) (hn : n = l.length) (hlen : n ≤ 10000000) (hA : Bytes w w.heap.size A l) :
    Calls Try.prog 41 #[.slice A n c] w (MadeOk w l) :=
  (open_any w A l n c hn hlen hA).mono fun e w' ⟨p, A', c', he, hr, hb⟩ => ⟨p, he, ⟨A', c', hr⟩, hb⟩
end Go.Proofs.Ytlmcmcafbepjmaa.FdW
