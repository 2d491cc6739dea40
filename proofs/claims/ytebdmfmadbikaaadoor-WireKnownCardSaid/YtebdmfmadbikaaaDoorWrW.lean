/- Package wire's writer: what a call leaves, said short; text. -/
import Derived.Test.YtebdmfmadbikaaaDoorWrMay
import Derived.Test.YtebdmfmadbikaaaDoorWiWr
namespace Go.Proofs.YtebdmfmadbikaaaDoor.WiW
open Go.RowKit Go.Shelf Mem Fds FdW Wi Rng
set_option linter.unusedVariables false
set_option linter.unusedSimpArgs false

/-- A writer at p with the bytes l; all that it holds lies from base on. -/
def WS (base p : Nat) (l : List UInt8) (w : World) : Prop := base ≤ w.heap.size ∧ ∃ A c, Wr w base p A c l
/-- What a writer's call leaves. -/
def PutS (w : World) (base p : Nat) (l : List UInt8) (e : Ending) (w' : World) : Prop :=
  e = .returned (.tuple #[]) ∧ WS base p l w' ∧ Below base w w' ∧ (∀ (q : Nat) (T : TypeId) (cs : Array Value), q ≠ p → T ≠ 5 → Blk w q T cs → Blk w' q T cs) ∧
    ∀ (A : Option Addr) (c : Nat) (l0 : List UInt8), Wr w base p A c l0 → Fr (WrS p A) w w' ∧ ∃ A' c', Wr w' base p A' c' l ∧ WrA w A A'
theorem WS.keep {w w' : World} {base p : Nat} {l : List UInt8} (h : WS base p l w) (hb : Below w.heap.size w w') : WS base p l w' := by
  obtain ⟨h1, A, c, h2⟩ := h
  exact ⟨Nat.le_trans h1 hb.size, A, c, h2.blk.keep hb, h2.own.keep hb, h2.at_⟩
theorem PutOk.s {w w' : World} {base p : Nat} {A : Option Addr} {c : Nat} {l l' : List UInt8} {e : Ending} (hb : base ≤ w.heap.size) (hw : Wr w base p A c l) (h : PutOk w base p A l' e w') : PutS w base p l' e w' := by
  obtain ⟨h1, A', c', h2, h3, h4⟩ := h
  have hA : ∀ k, WrS p A k → base ≤ k := by
    rintro k (rfl | hk)
    · exact hw.at_
    · rcases hw.own.form with ⟨h, _⟩ | ⟨g, h, hg, _⟩
      · rw [h] at hk; cases hk
      · rw [h] at hk; injection hk with hk; dsimp only at hk; omega
  refine ⟨h1, ⟨Nat.le_trans hb h3.size, A', c', h2⟩, h3.below hb hA, fun q T cs hq hT hB => hB.fr h3 ?_, fun A0 c0 l0 h0 => ?_⟩
  rotate_left
  · have e := h0.blk.symm.trans hw.blk
    injection e with e
    injection e with e
    have e := congrArg (·[0]?) e
    simp at e
    obtain ⟨rfl, _, _⟩ := e
    exact ⟨h3, A', c', h2, h4⟩
  rintro (hk | hk)
  · exact hq hk
  · rcases hw.own.form with ⟨h, _⟩ | ⟨g, h, hg, _⟩
    · rw [h] at hk; cases hk
    · rw [h] at hk; injection hk with hk; dsimp only at hk
      exact hB.ne_own hw.own hT g h hk
theorem byteS {w : World} {base p : Nat} {l : List UInt8} (h : WS base p l w) (hl : l.length ≤ 1000000) (n : Nat) (hn : n < 256 ^ 1) : Calls Tryd.prog 29 #[.pointer (some ⟨p, 0, none⟩), .int .u8 (n : Int)] w (PutS w base p (l ++ be 1 n)) := by
  obtain ⟨h1, A, c, h2⟩ := h
  exact (byte_any w base p A c l n hn h2 hl).mono fun e w' h => PutOk.s h1 h2 h
theorem shortS {w : World} {base p : Nat} {l : List UInt8} (h : WS base p l w) (hl : l.length ≤ 1000000) (n : Nat) (hn : n < 256 ^ 2) : Calls Tryd.prog 30 #[.pointer (some ⟨p, 0, none⟩), .int .u16 (n : Int)] w (PutS w base p (l ++ be 2 n)) := by
  obtain ⟨h1, A, c, h2⟩ := h
  exact (short_any w base p A c l n hn h2 hl).mono fun e w' h => PutOk.s h1 h2 h
theorem wordS {w : World} {base p : Nat} {l : List UInt8} (h : WS base p l w) (hl : l.length ≤ 1000000) (n : Nat) (hn : n < 256 ^ 4) : Calls Tryd.prog 60 #[.pointer (some ⟨p, 0, none⟩), .int .u32 (n : Int)] w (PutS w base p (l ++ be 4 n)) := by
  obtain ⟨h1, A, c, h2⟩ := h
  exact (word_any w base p A c l n hn h2 hl).mono fun e w' h => PutOk.s h1 h2 h
theorem longS {w : World} {base p : Nat} {l : List UInt8} (h : WS base p l w) (hl : l.length ≤ 1000000) (n : Nat) (hn : n < 256 ^ 8) : Calls Tryd.prog 58 #[.pointer (some ⟨p, 0, none⟩), .int .u64 (n : Int)] w (PutS w base p (l ++ be 8 n)) := by
  obtain ⟨h1, A, c, h2⟩ := h
  exact (long_any w base p A c l n hn h2 hl).mono fun e w' h => PutOk.s h1 h2 h
theorem rawS {w : World} {base p : Nat} {l : List UInt8} (h : WS base p l w) (hl : l.length ≤ 1000000) (B : Option Addr) (b : List UInt8) (n d : Nat) (hn : n = b.length) (hb : b.length ≤ 1000000) (hB : Bytes w w.heap.size B b) : Calls Tryd.prog 61 #[.pointer (some ⟨p, 0, none⟩), .slice B n d] w (PutS w base p (l ++ b)) := by
  obtain ⟨h1, A, c, h2⟩ := h
  exact (raw_any w base p A c l h2 hl B b n d hn (by omega) hB).mono fun e w' h => PutOk.s h1 h2 h
theorem WrS.of {w : World} {base p : Nat} {A A1 : Option Addr} {c1 : Nat} {l1 : List UInt8} {w1 : World} (h1 : Wr w1 base p A1 c1 l1) (ha : WrA w A A1) (i : Nat) (hi : i < w.heap.size) (h : WrS p A1 i) : WrS p A i := by
  rcases h with h | h
  · exact .inl h
  · rcases h1.own.form with ⟨e, _⟩ | ⟨g, e, _⟩
    · rw [e] at h; cases h
    · rcases ha g e with h2 | h2
      · rw [e] at h; injection h with h; dsimp only at h; subst h; right; rw [h2]; rfl
      · rw [e] at h; injection h with h; dsimp only at h; omega
theorem WrA.two {w w1 : World} {A A1 A2 : Option Addr} (h : WrA w A A1) (k : WrA w1 A1 A2) (hs : w.heap.size ≤ w1.heap.size) : WrA w A A2 := fun g hg => by
  rcases k g hg with h2 | h2
  · exact h g h2
  · exact .inr (by omega)
theorem PutS.two {w w1 w2 : World} {base p : Nat} {l l' : List UInt8} {e e' : Ending} (h : PutS w base p l e w1) (k : PutS w1 base p l' e' w2) : PutS w base p l' e' w2 :=
  ⟨k.1, k.2.1, h.2.2.1.trans k.2.2.1, fun q T cs hq hT hB => k.2.2.2.1 q T cs hq hT (h.2.2.2.1 q T cs hq hT hB), fun A c l0 h0 => by
    obtain ⟨f1, A1, c1, g1, a1⟩ := h.2.2.2.2 A c l0 h0
    obtain ⟨f2, A2, c2, g2, a2⟩ := k.2.2.2.2 A1 c1 l g1
    exact ⟨f1.trans f2 fun i hi hs => WrS.of g1 a1 i hi hs, A2, c2, g2, WrA.two a1 a2 f1.size⟩⟩
theorem PutS.after {w w1 w2 : World} {base p : Nat} {l' : List UInt8} {e' : Ending} (hb : Below w.heap.size w w1) (hB : base ≤ w.heap.size) (k : PutS w1 base p l' e' w2) : PutS w base p l' e' w2 :=
  ⟨k.1, k.2.1, (hb.mono hB).trans k.2.2.1, fun q T cs hq hT hB => k.2.2.2.1 q T cs hq hT (hB.keep hb), fun A c l0 h0 => by
    obtain ⟨f2, A2, c2, g2, a2⟩ := k.2.2.2.2 A c l0 ⟨h0.blk.keep hb, h0.own.keep hb, h0.at_⟩
    exact ⟨(Fr.quiet (S := WrS p A) hb).trans f2 fun _ _ h => h, A2, c2, g2, fun g hg => (a2 g hg).imp id fun h => Nat.le_trans hb.size h⟩⟩

set_option maxRecDepth 100000 in
set_option maxHeartbeats 1000000 in
theorem text_any (w : World) (base p : Nat) (l s : List UInt8) (h : WS base p l w) (hl : l.length ≤ 900000) (hs : s.length ≤ 64) :
    Calls Tryd.prog 59 #[.pointer (some ⟨p, 0, none⟩), .string (str s)] w (PutS w base p (l ++ txt s)) := by
  have hsz : (str s).size = s.length := rfl
  have hw8 : IntKind.u8.wrap ((s.length : Nat) : Int) = ((s.length : Nat) : Int) := by have e : ∀ x : Int, IntKind.u8.wrap x = x % 256 := fun _ => rfl; rw [e]; omega
  go_enter Tryd.func59, Tryd.ntmps59
  go_wp2_with fail
  refine (byteS h (by omega) s.length (by omega)).mono ?_
  rintro e w1 h1
  have H1 := Lib.hid h1
  obtain ⟨rfl, hs1, _, _⟩ := h1
  have HS1 := Lib.hid hs1
  clear hs1 hsz hw8
  go_wp2_with ((with_reducible show wpList _ _ _ ((⟨some 15, _, _, _, _, _⟩ : Oper) :: _) _ _); refine wpList_bytesOf _ (by rfl) _ _ _ rfl _ Tryd.underlying9 Tryd.underlying25 Tryd.underlying5 s rfl ?_; intro c2 w2 hc2 hrow2 hb2 hs2)
  refine (rawS (HS1.out.keep hb2) (by rw [List.length_append, be_len]; omega) _ s _ _ rfl (by omega) hrow2.cells).mono ?_
  rintro e w3 h3
  have H3 := Lib.hid (h3.after hb2 HS1.out.1)
  obtain ⟨rfl, hs3, _, _⟩ := h3
  clear hrow2 hb2 hs2 hc2 hs3
  go_wp2_with fail
  go_end0
  have := H1.out.two H3.out
  rw [List.append_assoc] at this
  exact this
end Go.Proofs.YtebdmfmadbikaaaDoor.WiW
