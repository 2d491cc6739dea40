/- A net and the document's net side by side, with other blocks of the law's own. -/
import Derived.Test.YtdgaicnnaidkkaaNtKeeps
import Derived.Test.YtdgaicnnaidkkaaOpenC
namespace Go.Proofs.Ytdgaicnnaidkkaa.NtW
open Go.RowKit Go.Shelf Mem Rng
set_option linter.unusedVariables false

/-- Since w0 nothing that was there has turned; the two nets; X: blocks that are neither's. -/
def LS (w0 : World) (p q most : Nat) (L M : List (List UInt8)) (X : Nat → Prop) (w : World) : Prop :=
  ∃ F G, NetA F p most L w ∧ RefA G q most M w ∧ (∀ k, F k → ¬ G k) ∧ (∀ k, F k ∨ G k → w0.heap.size ≤ k ∧ ¬ X k) ∧ (∀ k, X k → k < w.heap.size ∧ w0.heap.size ≤ k) ∧ Below w0.heap.size w0 w
theorem RefA.lt {G : Nat → Prop} {q most : Nat} {L : List (List UInt8)} {w : World} (h : RefA G q most L w) : ∀ k, G k → k < w.heap.size := by
  obtain ⟨A, c, hn⟩ := h; exact hn.lt
section
variable {w0 w w' : World} {p q most : Nat} {L M L' M' : List (List UInt8)} {X Y : Nat → Prop}
theorem LS.below (h : LS w0 p q most L M X w) : Below w0.heap.size w0 w := by obtain ⟨_, _, _, _, _, _, _, h⟩ := h; exact h
theorem LS.keep (h : LS w0 p q most L M X w) (hb : Below w.heap.size w w') : LS w0 p q most L M X w' := by
  obtain ⟨F, G, h1, h2, h3, h4, h5, h6⟩ := h
  exact ⟨F, G, h1.keep hb, h2.keep hb, h3, h4, fun k hk => ⟨Nat.lt_of_lt_of_le (h5 k hk).1 hb.size, (h5 k hk).2⟩, next h6 hb⟩
/-- Blocks of X turned. -/
theorem LS.other (h : LS w0 p q most L M X w) (hf : Fr X w w') : LS w0 p q most L M X w' := by
  obtain ⟨F, G, h1, h2, h3, h4, h5, h6⟩ := h
  refine ⟨F, G, ?_, ?_, h3, h4, fun k hk => ⟨Nat.lt_of_lt_of_le (h5 k hk).1 hf.size, (h5 k hk).2⟩, h6.trans (hf.below h6.size fun k hk => (h5 k hk).2)⟩
  · obtain ⟨A, c, ms, e, hn⟩ := h1
    exact ⟨A, c, ms, e, hn.fr hf fun k hk hx => (h4 k (.inl hk)).2 hx⟩
  · obtain ⟨A, c, hn⟩ := h2
    exact ⟨A, c, hn.fr hf fun k hk hx => (h4 k (.inr hk)).2 hx⟩
/-- New blocks are taken into X. -/
theorem LS.more (h : LS w0 p q most L M X w) (hb : Below w.heap.size w w') (hY : ∀ k, Y k → w.heap.size ≤ k ∧ k < w'.heap.size) : LS w0 p q most L M (fun k => X k ∨ Y k) w' := by
  obtain ⟨F, G, h1, h2, h3, h4, h5, h6⟩ := h
  refine ⟨F, G, h1.keep hb, h2.keep hb, h3, fun k hk => ⟨(h4 k hk).1, fun hx => hx.elim (h4 k hk).2 (fun hy => ?_)⟩, fun k hk => hk.elim (fun hx => ⟨Nat.lt_of_lt_of_le (h5 k hx).1 hb.size, (h5 k hx).2⟩) (fun hy => ⟨(hY k hy).2, Nat.le_trans h6.size (hY k hy).1⟩), next h6 hb⟩
  have := (hY k hy).1
  rcases hk with hk | hk
  · have := h1.lt k hk; omega
  · have := h2.lt k hk; omega
theorem LS.less (h : LS w0 p q most L M X w) (hY : ∀ k, Y k → X k) : LS w0 p q most L M Y w := by
  obtain ⟨F, G, h1, h2, h3, h4, h5, h6⟩ := h
  exact ⟨F, G, h1, h2, h3, fun k hk => ⟨(h4 k hk).1, fun hy => (h4 k hk).2 (hY k hy)⟩, fun k hk => h5 k (hY k hk), h6⟩
theorem LS.netTurn {F G F' : Nat → Prop} (h2 : RefA G q most M w) (h3 : ∀ k, F k → ¬ G k) (h4 : ∀ k, F k ∨ G k → w0.heap.size ≤ k ∧ ¬ X k) (h5 : ∀ k, X k → k < w.heap.size ∧ w0.heap.size ≤ k) (h6 : Below w0.heap.size w0 w) (k1 : NetA F' p most L' w') (k2 : Grow F F' w) (k3 : Fr F w w') :
    LS w0 p q most L' M X w' ∧ Fr (fun k => ¬ X k) w w' := by
  refine ⟨⟨F', G, k1, ?_, fun k hk hg => (k2 k hk).elim (fun h => h3 k h hg) (fun h => by have := h2.lt k hg; omega), fun k hk => ?_, fun k hk => ⟨Nat.lt_of_lt_of_le (h5 k hk).1 k3.size, (h5 k hk).2⟩, h6.trans (k3.below h6.size fun k hk => (h4 k (.inl hk)).1)⟩, k3.mono fun k _ hk => (h4 k (.inl hk)).2⟩
  · obtain ⟨A, c, hn⟩ := h2
    exact ⟨A, c, hn.fr k3 fun k hk hf => h3 k hf hk⟩
  · rcases hk with hk | hk
    · rcases k2 k hk with h | h
      · exact h4 k (.inl h)
      · exact ⟨Nat.le_trans h6.size h, fun hx => by have := (h5 k hx).1; omega⟩
    · exact h4 k (.inr hk)
theorem LS.refTurn {F G G' : Nat → Prop} (h1 : NetA F p most L w) (h3 : ∀ k, F k → ¬ G k) (h4 : ∀ k, F k ∨ G k → w0.heap.size ≤ k ∧ ¬ X k) (h5 : ∀ k, X k → k < w.heap.size ∧ w0.heap.size ≤ k) (h6 : Below w0.heap.size w0 w) (k1 : RefA G' q most M' w') (k2 : Grow G G' w) (k3 : Fr G w w') :
    LS w0 p q most L M' X w' ∧ Fr (fun k => ¬ X k) w w' := by
  refine ⟨⟨F, G', ?_, k1, fun k hf hk => (k2 k hk).elim (fun h => h3 k hf h) (fun h => by have := h1.lt k hf; omega), fun k hk => ?_, fun k hk => ⟨Nat.lt_of_lt_of_le (h5 k hk).1 k3.size, (h5 k hk).2⟩, h6.trans (k3.below h6.size fun k hk => (h4 k (.inr hk)).1)⟩, k3.mono fun k _ hk => (h4 k (.inr hk)).2⟩
  · obtain ⟨A, c, ms, e, hn⟩ := h1
    exact ⟨A, c, ms, e, hn.fr k3 fun k hk hg => h3 k hk hg⟩
  · rcases hk with hk | hk
    · exact h4 k (.inl hk)
    · rcases k2 k hk with h | h
      · exact h4 k (.inr h)
      · exact ⟨Nat.le_trans h6.size h, fun hx => by have := (h5 k hx).1; omega⟩
/-- What a call leaves: a value, the state, and X as it was. -/
def LOk (w0 : World) (p q most : Nat) (X : Nat → Prop) (w : World) (L M : List (List UInt8)) (v : Value) (e : Ending) (w' : World) : Prop := e = .returned v ∧ LS w0 p q most L M X w' ∧ Fr (fun k => ¬ X k) w w'
variable (h : LS w0 p q most L M X w)
include h
theorem sendL' (B : Option Addr) (l : List UInt8) (n cb : Nat) (hn : n = l.length) (hB : Bytes w w.heap.size B l) :
    Calls Try.prog 7 #[.pointer (some ⟨p, 0, none⟩), .slice B n cb] w (LOk w0 p q most X w (sendL most L l) M (.int .i64 (sendE most L l))) := by
  obtain ⟨F, G, h1, h2, h3, h4, h5, h6⟩ := h
  exact (send_any F p most L w h1 B l n cb hn hB).mono fun e w' ⟨he, F', k1, k2, k3⟩ => ⟨he, LS.netTurn h2 h3 h4 h5 h6 k1 k2 k3⟩
theorem rsendL' (l : List UInt8) : Calls Try.prog 26 #[.pointer (some ⟨q, 0, none⟩), .string (str l)] w (LOk w0 p q most X w L (sendL most M l) (.int .i64 (sendE most M l))) := by
  obtain ⟨F, G, h1, h2, h3, h4, h5, h6⟩ := h
  exact (rsend_any G q most M w h2 l).mono fun e w' ⟨he, F', k1, k2, k3⟩ => ⟨he, LS.refTurn h1 h3 h4 h5 h6 k1 k2 k3⟩
theorem twiceL' (i : Int) : Calls Try.prog 18 #[.pointer (some ⟨p, 0, none⟩), .int .i64 i] w (LOk w0 p q most X w (twiceL most L i) M (.int .i64 (twiceE most L i))) := by
  obtain ⟨F, G, h1, h2, h3, h4, h5, h6⟩ := h
  exact (twice_any F p most L w h1 i).mono fun e w' ⟨he, F', k1, k2, k3⟩ => ⟨he, LS.netTurn h2 h3 h4 h5 h6 k1 k2 k3⟩
theorem rtwiceL' (i : Int) : Calls Try.prog 24 #[.pointer (some ⟨q, 0, none⟩), .int .i64 i] w (LOk w0 p q most X w L (twiceL most M i) (.int .i64 (twiceE most M i))) := by
  obtain ⟨F, G, h1, h2, h3, h4, h5, h6⟩ := h
  exact (rtwice_any G q most M w h2 i).mono fun e w' ⟨he, F', k1, k2, k3⟩ => ⟨he, LS.refTurn h1 h3 h4 h5 h6 k1 k2 k3⟩
theorem setL' (i : Int) (B : Option Addr) (l : List UInt8) (n cb : Nat) (hn : n = l.length) (hB : Bytes w w.heap.size B l) :
    Calls Try.prog 19 #[.pointer (some ⟨p, 0, none⟩), .int .i64 i, .slice B n cb] w (LOk w0 p q most X w (setL L i l) M (.int .i64 (setE L i l))) := by
  obtain ⟨F, G, h1, h2, h3, h4, h5, h6⟩ := h
  exact (set_any F p most L w h1 i B l n cb hn hB).mono fun e w' ⟨he, F', k1, k2, k3⟩ => ⟨he, LS.netTurn h2 h3 h4 h5 h6 k1 k2 k3⟩
theorem rsetL' (i : Int) (l : List UInt8) : Calls Try.prog 25 #[.pointer (some ⟨q, 0, none⟩), .int .i64 i, .string (str l)] w (LOk w0 p q most X w L (setL M i l) (.int .i64 (setE M i l))) := by
  obtain ⟨F, G, h1, h2, h3, h4, h5, h6⟩ := h
  exact (rset_any G q most M w h2 i l).mono fun e w' ⟨he, F', k1, k2, k3⟩ => ⟨he, LS.refTurn h1 h3 h4 h5 h6 k1 k2 k3⟩
/-- A message taken. -/
def LGot (w0 : World) (p q most : Nat) (X : Nat → Prop) (w : World) (L M : List (List UInt8)) (v : Option (List UInt8)) (e : Ending) (w' : World) : Prop :=
  ∃ B c, e = .returned (.tuple #[.slice B (v.getD []).length c, .bool v.isSome]) ∧ Mem.Own w' w.heap.size 5 B c ((v.getD []).map u8v) ∧ LS w0 p q most L M X w' ∧ Fr (fun k => ¬ X k) w w'
theorem takeL' (i : Int) : Calls Try.prog 8 #[.pointer (some ⟨p, 0, none⟩), .int .i64 i] w (LGot w0 p q most X w (if (atV L i).isSome then L.eraseIdx i.toNat else L) M (atV L i)) := by
  obtain ⟨F, G, h1, h2, h3, h4, h5, h6⟩ := h
  exact (take_any F p most L w h1 i).mono fun e w' ⟨B, c, he, k1, k2, k3⟩ => ⟨B, c, he, k1, LS.netTurn h2 h3 h4 h5 h6 k2 (fun _ h => .inl h) k3⟩
theorem rtakeL' (i : Int) : Calls Try.prog 23 #[.pointer (some ⟨q, 0, none⟩), .int .i64 i] w (LOk w0 p q most X w L (if (atV M i).isSome then M.eraseIdx i.toNat else M) (.tuple #[.string (str ((atV M i).getD [])), .bool (atV M i).isSome])) := by
  obtain ⟨F, G, h1, h2, h3, h4, h5, h6⟩ := h
  exact (rtake_any G q most M w h2 i).mono fun e w' ⟨he, F', k1, k2, k3⟩ => ⟨he, LS.refTurn h1 h3 h4 h5 h6 k1 k2 k3⟩
theorem clearL' : Calls Try.prog 17 #[.pointer (some ⟨p, 0, none⟩)] w (LOk w0 p q most X w [] M (.tuple #[])) := by
  obtain ⟨F, G, h1, h2, h3, h4, h5, h6⟩ := h
  exact (clear_any F p most L w h1).mono fun e w' ⟨he, k1, k3⟩ => ⟨he, LS.netTurn h2 h3 h4 h5 h6 k1 (fun _ h => .inl h) k3⟩
theorem atL' (i : Int) : Calls Try.prog 16 #[.pointer (some ⟨p, 0, none⟩), .int .i64 i] w (AtOk w (atV L i)) := by
  obtain ⟨F, G, h1, _⟩ := h
  exact at_any F p most L w h1 i
theorem ratL' (i : Int) : Calls Try.prog 27 #[.pointer (some ⟨q, 0, none⟩), .int .i64 i] w fun e w' => e = .returned (.tuple #[.string (str ((atV M i).getD [])), .bool (atV M i).isSome]) ∧ w = w' := by
  obtain ⟨F, G, _, h2, _⟩ := h
  exact rat_any G q most M w h2 i
theorem allL' : Calls Try.prog 9 #[.pointer (some ⟨p, 0, none⟩)] w (AllOk w L) := by
  obtain ⟨F, G, h1, _⟩ := h
  exact all_any F p most L w h1
theorem lenL' : Calls Try.prog 10 #[.pointer (some ⟨p, 0, none⟩)] w fun e w' => e = .returned (.int .i64 (L.length : Int)) ∧ w' = w := by
  obtain ⟨F, G, h1, _⟩ := h
  exact (len_any F p most L w h1).mono fun _ _ ⟨h1, h2⟩ => ⟨h1, h2.symm⟩
/-- The document's row, where the law looks at it. -/
theorem LS.rcell : ∃ A c, w.cell? ⟨q, 1, none⟩ = some (.slice A M.length c) ∧ w.frozen? ⟨q, 1, none⟩ = false ∧ M.length ≤ 100000 := by
  obtain ⟨F, G, _, h2, _⟩ := h
  obtain ⟨A, c, hn⟩ := h2
  exact ⟨A, c, hn.cell1, hn.blk.frozen 1, hn.bound.1⟩
/-- The law lets the document's net hold none. -/
theorem LS.rclear : LS w0 p q most L [] X (w.setCell ⟨q, 1, none⟩ (.slice none 0 0)) ∧ Fr (fun k => ¬ X k) w (w.setCell ⟨q, 1, none⟩ (.slice none 0 0)) := by
  obtain ⟨F, G, h1, ⟨A, c, hn⟩, h3, h4, h5, h6⟩ := h
  have hf : Fr G w (w.setCell ⟨q, 1, none⟩ (.slice none 0 0)) := (Fr.refl G w).setCell (p := ⟨q, 1, none⟩) (fun _ => hn.foot.1) _
  refine LS.refTurn h1 h3 h4 h5 h6 (G' := G) ⟨none, 0, hn.blk.set_ 1 _, Mem.Own.nil, ⟨hn.foot.1, (fun g h => by cases h)⟩, fun k hk => Nat.lt_of_lt_of_le (hn.lt k hk) hf.size, Nat.zero_le _, by decide, hn.bound.2.2⟩ (fun _ h => .inl h) hf
end
end Go.Proofs.Ytdgaicnnaidkkaa.NtW
