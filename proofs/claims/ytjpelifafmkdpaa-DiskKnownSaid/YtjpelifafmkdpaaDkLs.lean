/- Several disks at a time, with other blocks of the law's own. -/
import Derived.Test.YtjpelifafmkdpaaDkOn
namespace Go.Proofs.Ytjpelifafmkdpaa.DkW
open Go.RowKit Go.Shelf Mem Rng
set_option linter.unusedVariables false

/-- Since w0 nothing that was there has turned; the disks of R; X: blocks that are no disk's. -/
def DSt (w0 : World) (R : List (Nat × DS)) (X : Nat → Prop) (w : World) : Prop :=
  ∃ Fs : Nat → Nat → Prop, (∀ i p s, R[i]? = some (p, s) → DkA (Fs i) p s w) ∧ (∀ i j k, i ≠ j → Fs i k → ¬ Fs j k) ∧ (∀ i k, Fs i k → w0.heap.size ≤ k ∧ k < w.heap.size ∧ ¬ X k) ∧ (∀ k, X k → k < w.heap.size ∧ w0.heap.size ≤ k) ∧ Below w0.heap.size w0 w
/-- What a call leaves: a value, the disks, and X as it was. -/
def DOk (w0 : World) (R : List (Nat × DS)) (X : Nat → Prop) (w : World) (v : Value) (e : Ending) (w' : World) : Prop := e = .returned v ∧ DSt w0 R X w' ∧ Fr (fun k => ¬ X k) w w'
theorem Row.frX {S : Nat → Prop} {w w' : World} {base : Nat} {A : Option Addr} {xs : List Value} (h : Row w base A xs) (hf : Fr S w w') (hA : ∀ g, A = some ⟨g, 0, none⟩ → 0 < xs.length → ¬ S g) : Row w' base A xs := fun hl => by
  obtain ⟨g, cur, T, fz, e, hg, hh, r⟩ := h hl
  exact ⟨g, cur, T, fz, e, hg, (hf.block g (Array.getElem?_eq_some_iff.1 hh).1 (hA g e hl)).trans hh, r⟩
section
variable {w0 w w' : World} {R : List (Nat × DS)} {X Y : Nat → Prop} {i p : Nat} {s s' : DS} {v : Value} {e : Ending}
theorem DSt.start (w0 : World) : DSt w0 [] (fun _ => False) w0 := ⟨fun _ _ => False, (fun i p s h => by cases h), (fun _ _ _ _ h => h.elim), (fun _ _ h => h.elim), (fun _ h => h.elim), Mem.start w0⟩
theorem DSt.below (h : DSt w0 R X w) : Below w0.heap.size w0 w := by obtain ⟨_, _, _, _, _, h⟩ := h; exact h
theorem DSt.keep (h : DSt w0 R X w) (hb : Below w.heap.size w w') : DSt w0 R X w' := by
  obtain ⟨Fs, h1, h2, h3, h4, h5⟩ := h
  exact ⟨Fs, fun i p s h => (h1 i p s h).keep hb, h2, fun i k h => ⟨(h3 i k h).1, Nat.lt_of_lt_of_le (h3 i k h).2.1 hb.size, (h3 i k h).2.2⟩, fun k hk => ⟨Nat.lt_of_lt_of_le (h4 k hk).1 hb.size, (h4 k hk).2⟩, next h5 hb⟩
/-- Blocks of X turned. -/
theorem DSt.other (h : DSt w0 R X w) (hf : Fr X w w') : DSt w0 R X w' := by
  obtain ⟨Fs, h1, h2, h3, h4, h5⟩ := h
  exact ⟨Fs, fun i p s h => DkM.fr (h1 i p s h) hf fun k hk => (h3 i k hk).2.2, h2, fun i k h => ⟨(h3 i k h).1, Nat.lt_of_lt_of_le (h3 i k h).2.1 hf.size, (h3 i k h).2.2⟩, fun k hk => ⟨Nat.lt_of_lt_of_le (h4 k hk).1 hf.size, (h4 k hk).2⟩, h5.trans (hf.below h5.size fun k hk => (h4 k hk).2)⟩
/-- New blocks are taken into X. -/
theorem DSt.more (h : DSt w0 R X w) (hb : Below w.heap.size w w') (hY : ∀ k, Y k → w.heap.size ≤ k ∧ k < w'.heap.size) : DSt w0 R (fun k => X k ∨ Y k) w' := by
  obtain ⟨Fs, h1, h2, h3, h4, h5⟩ := h
  exact ⟨Fs, fun i p s h => (h1 i p s h).keep hb, h2, fun i k h => ⟨(h3 i k h).1, Nat.lt_of_lt_of_le (h3 i k h).2.1 hb.size, fun hx => hx.elim (h3 i k h).2.2 fun hy => by have h1 := (hY k hy).1; have h2 := (h3 i k h).2.1; omega⟩, fun k hk => hk.elim (fun hk => ⟨Nat.lt_of_lt_of_le (h4 k hk).1 hb.size, (h4 k hk).2⟩) (fun hy => ⟨(hY k hy).2, Nat.le_trans h5.size (hY k hy).1⟩), next h5 hb⟩
theorem DSt.less (h : DSt w0 R X w) (hY : ∀ k, Y k → X k) : DSt w0 R Y w := by
  obtain ⟨Fs, h1, h2, h3, h4, h5⟩ := h
  exact ⟨Fs, h1, h2, fun i k h => ⟨(h3 i k h).1, (h3 i k h).2.1, fun hy => (h3 i k h).2.2 (hY k hy)⟩, fun k hk => h4 k (hY k hk), h5⟩
theorem DSt.has (h : DSt w0 R X w) (hi : R[i]? = some (p, s)) : ∃ F, DkA F p s w := by
  obtain ⟨Fs, h1, _⟩ := h
  exact ⟨Fs i, h1 i p s hi⟩
theorem DSt.turn {P : Program} {f : Nat} {args : Array Value} (h : DSt w0 R X w) (hi : R[i]? = some (p, s)) (hc : ∀ F, DkA F p s w → Calls P f args w (DkOk w F p s' v)) : Calls P f args w (DOk w0 (R.set i (p, s')) X w v) := by
  obtain ⟨Fs, h1, h2, h3, h4, h5⟩ := h
  refine (hc (Fs i) (h1 i p s hi)).mono fun e w' ⟨he, F', k1, k2, k3⟩ => ⟨he, ⟨fun j => if j = i then F' else Fs j, fun j q t hj => ?_, fun j l k hjl hk hk' => ?_, fun j k hk => ?_, fun k hk => ⟨Nat.lt_of_lt_of_le (h4 k hk).1 k3.size, (h4 k hk).2⟩, h5.trans (k3.below h5.size fun k hk => (h3 i k hk).1)⟩, k3.mono fun k _ hk => (h3 i k hk).2.2⟩
  · by_cases hji : j = i
    · subst hji
      rw [List.getElem?_set_self' , hi] at hj
      injection hj with hj; injection hj with h6 h7; subst h6; subst h7
      simp only [if_true]
      exact k1
    · rw [List.getElem?_set_ne (fun e => hji e.symm)] at hj
      simp only [if_neg hji]
      exact DkM.fr (h1 j q t hj) k3 fun k hk hk' => h2 j i k hji hk hk'
  · dsimp only at hk hk'
    by_cases hji : j = i
    · rw [if_pos hji] at hk
      rw [if_neg (by omega)] at hk'
      rcases k2 k hk with h6 | h6
      · exact h2 i l k (by omega) h6 hk'
      · have := (h3 l k hk').2.1; omega
    · rw [if_neg hji] at hk
      by_cases hli : l = i
      · rw [if_pos hli] at hk'
        rcases k2 k hk' with h6 | h6
        · exact h2 i j k (by omega) h6 hk
        · have := (h3 j k hk).2.1; omega
      · rw [if_neg hli] at hk'
        exact h2 j l k hjl hk hk'
  · dsimp only at hk
    by_cases hji : j = i
    · rw [if_pos hji] at hk
      refine ⟨?_, DkM.lt k1 k hk, ?_⟩
      · rcases k2 k hk with h6 | h6
        · exact (h3 i k h6).1
        · exact Nat.le_trans h5.size h6
      · rcases k2 k hk with h6 | h6
        · exact (h3 i k h6).2.2
        · exact fun hx => by have := (h4 k hx).1; omega
    · rw [if_neg hji] at hk
      exact ⟨(h3 j k hk).1, Nat.lt_of_lt_of_le (h3 j k hk).2.1 k3.size, (h3 j k hk).2.2⟩
theorem DSt.add {F' : Nat → Prop} (h : DSt w0 R X w) (h1 : DkA F' p s w') (h2 : ∀ k, F' k → w.heap.size ≤ k) (hb : Below w.heap.size w w') : DSt w0 (R ++ [(p, s)]) X w' := by
  obtain ⟨Fs, g1, g2, g3, g4, g5⟩ := h
  refine ⟨fun j => if j < R.length then Fs j else if j = R.length then F' else fun _ => False, fun j q t hj => ?_, fun j l k hjl hk hk' => ?_, fun j k hk => ?_, fun k hk => ⟨Nat.lt_of_lt_of_le (g4 k hk).1 hb.size, (g4 k hk).2⟩, next g5 hb⟩
  · by_cases hjr : j < R.length
    · simp only [if_pos hjr]
      rw [List.getElem?_append_left hjr] at hj
      exact (g1 j q t hj).keep hb
    · simp only [if_neg hjr]
      rw [List.getElem?_append_right (by omega)] at hj
      by_cases hj0 : j = R.length
      · subst hj0
        rw [Nat.sub_self] at hj
        injection hj with hj; injection hj with h6 h7; subst h6; subst h7
        simp only [if_true]
        exact h1
      · rw [List.getElem?_eq_none (by simp; omega)] at hj; cases hj
  · dsimp only at hk hk'
    split at hk
    · split at hk'
      · exact g2 j l k hjl hk hk'
      · split at hk'
        · have h6 := h2 k hk'; have := (g3 j k hk).2.1; omega
        · exact hk'
    · split at hk
      · split at hk'
        · have h6 := h2 k hk; have := (g3 l k hk').2.1; omega
        · split at hk'
          · omega
          · exact hk'
      · exact hk
  · dsimp only at hk
    split at hk
    · exact ⟨(g3 j k hk).1, Nat.lt_of_lt_of_le (g3 j k hk).2.1 hb.size, (g3 j k hk).2.2⟩
    · split at hk
      · exact ⟨Nat.le_trans g5.size (h2 k hk), DkM.lt h1 k hk, fun hx => by have h6 := h2 k hk; have := (g4 k hx).1; omega⟩
      · exact hk.elim
def DNew (w0 : World) (R : List (Nat × DS)) (s : DS) (X : Nat → Prop) (w : World) (e : Ending) (w' : World) : Prop := ∃ p, e = .returned (.pointer (some ⟨p, 0, none⟩)) ∧ DSt w0 (R ++ [(p, s)]) X w' ∧ Below w.heap.size w w'
def DGot (w0 : World) (R : List (Nat × DS)) (X : Nat → Prop) (w : World) (v : List UInt8) (x : Int) (e : Ending) (w' : World) : Prop :=
  ∃ A c, e = .returned (.tuple #[.slice A v.length c, .int .i64 x]) ∧ Row w' w.heap.size A (v.map u8v) ∧ DSt w0 R (fun k => X k ∨ (A = some ⟨k, 0, none⟩ ∧ 0 < v.length)) w' ∧ Below w.heap.size w w' ∧ v.length ≤ c ∧ c ≤ 256
def DGot2 (w0 : World) (R : List (Nat × DS)) (X : Nat → Prop) (w : World) (v : List UInt8) (e : Ending) (w' : World) : Prop :=
  ∃ g, e = .returned (.tuple #[.slice (some ⟨g, 0, none⟩) 256 256, .int .i64 0]) ∧ Row w' w.heap.size (some ⟨g, 0, none⟩) (v.map u8v) ∧ v.length = 256 ∧ DSt w0 R (fun k => X k ∨ k = g) w' ∧ Below w.heap.size w w'
variable (h : DSt w0 R X w)
include h
theorem dnew (n : Int) : Calls Try.prog 20 #[.int .i64 n] w (DNew w0 R (DS.new (min 4096 (max 0 n)).toNat) X w) :=
  (new_any w n).mono fun e w' ⟨F, p, he, k1, k2, k3⟩ => ⟨p, he, h.add k1 k2 k3, k3⟩
variable (hi : R[i]? = some (p, s))
include hi
theorem dcopy : Calls Try.prog 15 #[.pointer (some ⟨p, 0, none⟩)] w (DNew w0 R s X w) := by
  obtain ⟨F, hd⟩ := h.has hi
  exact (copy_any hd).mono fun e w' ⟨F, p, he, k1, k2, k3⟩ => ⟨p, he, h.add k1 k2 k3, k3⟩
theorem dwrite (a : Int) (ha : I64 a) (A : Option Addr) (l : List UInt8) (m c : Nat) (hm : l.length = m) (hA : Bytes w w.heap.size A l) (hs : s.steps + 1 ≤ 256 ^ 3) :
    Calls Try.prog 23 #[.pointer (some ⟨p, 0, none⟩), .int .i64 a, .slice A m c] w (DOk w0 (R.set i (p, (s.write a l).1)) X w (.int .i64 (s.write a l).2)) := by
  subst hm
  exact h.turn hi fun F hd => write_any hd a ha A l c hA hs
theorem dsync (hs : s.steps + 1 ≤ 256 ^ 3) : Calls Try.prog 22 #[.pointer (some ⟨p, 0, none⟩)] w (DOk w0 (R.set i (p, s.sync.1)) X w (.int .i64 s.sync.2)) :=
  h.turn hi fun F hd => sync_any hd hs
theorem dfail (n : Int) (hn : n ≤ 9223372036854775807) : Calls Try.prog 21 #[.pointer (some ⟨p, 0, none⟩), .int .i64 n] w (DOk w0 (R.set i (p, s.fail n)) X w (.tuple #[])) :=
  h.turn hi fun F hd => fail_any hd n hn
theorem dcrash : Calls Try.prog 13 #[.pointer (some ⟨p, 0, none⟩)] w (DOk w0 (R.set i (p, s.crash)) X w (.tuple #[])) :=
  h.turn hi fun F hd => (crash_any hd).mono fun e w' ⟨he, k1, k2, k3⟩ => ⟨he, F, k1, fun _ h => .inl h, k2⟩
theorem don (A : Option Addr) (fates : List UInt8) (m c : Nat) (hm : fates.length = m) (hA : Bytes w w.heap.size A fates) (hf : fates.length ≤ 256 ^ 3) :
    Calls Try.prog 14 #[.pointer (some ⟨p, 0, none⟩), .slice A m c] w (DOk w0 (R.set i (p, s.on fates)) X w (.tuple #[])) := by
  subst hm
  exact h.turn hi fun F hd => on_any hd A fates c hA hf
theorem dread (a : Int) (ha : I64 a) : Calls Try.prog 12 #[.pointer (some ⟨p, 0, none⟩), .int .i64 a] w (DGot w0 R X w (if s.may a 0 = 0 then s.N a else []) (s.may a 0)) := by
  obtain ⟨F, hd⟩ := h.has hi
  refine (read_any hd a ha).mono fun e w' ⟨A, c, he, k1, k2, k3, k4⟩ => ⟨A, c, he, k1, h.more k2 fun k hk => ?_, k2, k3, k4⟩
  obtain ⟨g, cur, T, fz, e, hg, hh, _⟩ := k1 (by rw [List.length_map]; exact hk.2)
  rw [hk.1] at e
  injection e with e; injection e with e; subst e
  exact ⟨hg, (Array.getElem?_eq_some_iff.1 hh).1⟩
theorem DSt.lenN (a : Int) : (s.N a).length = 256 := by
  obtain ⟨F, ms, mn, A, c, hd⟩ := h.has hi
  exact hd.lens.2.2 a
/-- A block's bytes, where it may be read. -/
theorem dread2 (a : Int) (ha : I64 a) (hx : s.may a 0 = 0) : Calls Try.prog 12 #[.pointer (some ⟨p, 0, none⟩), .int .i64 a] w (DGot2 w0 R X w (s.N a)) := by
  have hl := h.lenN hi a
  have := dread h hi a ha
  rw [if_pos hx, hx] at this
  refine this.mono fun e w' ⟨A, c, he, k1, k2, k3, k4, k5⟩ => ?_
  rw [hl] at he k4
  obtain rfl : c = 256 := by omega
  obtain ⟨g, cur, T, fz, e, hg, hh, r⟩ := k1 (by rw [List.length_map, hl]; decide)
  subst e
  exact ⟨g, he, k1, hl, k2.less fun k hk => hk.imp id fun e => ⟨by rw [e], by rw [hl]; decide⟩, k3⟩
theorem dopen : Calls Try.prog 18 #[.pointer (some ⟨p, 0, none⟩)] w fun e w' => e = .returned (.int .i64 (s.L.length : Int)) ∧ w = w' := by
  obtain ⟨F, hd⟩ := h.has hi
  exact open_any hd
theorem doff : Calls Try.prog 19 #[.pointer (some ⟨p, 0, none⟩)] w fun e w' => e = .returned (.bool s.off) ∧ w = w' := by
  obtain ⟨F, hd⟩ := h.has hi
  exact off_any hd
theorem dsteps : Calls Try.prog 24 #[.pointer (some ⟨p, 0, none⟩)] w fun e w' => e = .returned (.int .i64 (s.steps : Int)) ∧ w = w' := by
  obtain ⟨F, hd⟩ := h.has hi
  exact steps_any hd
theorem dblocks : Calls Try.prog 28 #[.pointer (some ⟨p, 0, none⟩)] w fun e w' => e = .returned (.int .i64 (s.n : Int)) ∧ w = w' := by
  obtain ⟨F, hd⟩ := h.has hi
  exact blocks_any hd
end
end Go.Proofs.Ytjpelifafmkdpaa.DkW
