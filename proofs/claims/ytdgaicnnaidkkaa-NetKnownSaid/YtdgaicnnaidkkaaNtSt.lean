/- A net in memory: its block, its row, its messages; what the calls leave of it. -/
import Derived.Test.YtdgaicnnaidkkaaHeldG
import Derived.Test.YtdgaicnnaidkkaaAppz
import Derived.Test.YtdgaicnnaidkkaaClone
import Derived.Test.YtdgaicnnaidkkaaMk
namespace Go.Proofs.Ytdgaicnnaidkkaa.NtW
open Go.RowKit Go.Shelf Mem Rng
set_option linter.unusedVariables false

/-- A message as it lies: where it begins, its bytes, its capacity. -/
structure Ms where
  A : Option Addr
  l : List UInt8
  c : Nat
def Ms.v (m : Ms) : Value := .slice m.A m.l.length m.c
def tot (ms : List Ms) : Nat := (ms.map (·.l.length)).sum
theorem tot_snoc (ms : List Ms) (m : Ms) : tot (ms ++ [m]) = tot ms + m.l.length := by simp [tot]
/-- The net of block p: its row begins at A; the blocks of F are its own. -/
structure Net (F : Nat → Prop) (p : Nat) (A : Option Addr) (c most : Nat) (ms : List Ms) (w : World) : Prop where
  blk : Blk w p 49 #[.slice A ms.length c, .int .i64 (most : Int), .int .i64 ((tot ms : Nat) : Int)]
  own : Mem.Own w 0 22 A c (ms.map Ms.v)
  msg : ∀ m ∈ ms, Bytes w w.heap.size m.A m.l ∧ m.l.length ≤ m.c ∧ m.l.length ≤ 131072 ∧ (0 < m.l.length → ∃ b o, m.A = some ⟨b, o, none⟩ ∧ F b ∧ b ≠ p ∧ A ≠ some ⟨b, 0, none⟩)
  foot : F p ∧ ∀ g, A = some ⟨g, 0, none⟩ → F g ∧ g ≠ p
  lt : ∀ k, F k → k < w.heap.size
  bound : most ≤ 100000 ∧ ms.length ≤ most ∧ tot ms ≤ 134217728
/-- Bytes whose block has not turned. -/
theorem bytesFr {w W : World} {S : Nat → Prop} {A : Option Addr} {l : List UInt8} (h : Bytes w w.heap.size A l) (hf : Fr S w W) (hS : ∀ b o, A = some ⟨b, o, none⟩ → 0 < l.length → ¬ S b) : Bytes W W.heap.size A l := fun hl => by
  obtain ⟨b, off, e, hb, hc⟩ := h hl
  exact ⟨b, off, e, Nat.lt_of_lt_of_le hb hf.size, fun j v hv => (World.cell?_of_block (hf.block b hb (hS b off e (by simpa using hl)))).trans (hc j v hv)⟩
/-- More blocks of one's own: new ones. -/
def Grow (F F' : Nat → Prop) (w : World) : Prop := ∀ k, F' k → F k ∨ w.heap.size ≤ k
section
variable {F : Nat → Prop} {p c most : Nat} {A : Option Addr} {ms : List Ms} {w w' w1 w2 : World}
theorem Net.fr {S : Nat → Prop} (h : Net F p A c most ms w) (hf : Fr S w w') (hS : ∀ k, F k → ¬ S k) : Net F p A c most ms w' :=
  ⟨h.blk.fr hf (hS p h.foot.1), h.own.fr hf (fun g hg => hS g (h.foot.2 g hg).1), fun m hm => by
    obtain ⟨h1, h2, h3, h4⟩ := h.msg m hm
    refine ⟨bytesFr h1 hf (fun b o e hl => ?_), h2, h3, h4⟩
    obtain ⟨b', o', e', hF, _⟩ := h4 hl
    rw [e] at e'; injection e' with e'; injection e' with e' _; subst e'; exact hS b hF, h.foot, fun k hk => Nat.lt_of_lt_of_le (h.lt k hk) hf.size, h.bound⟩
theorem Net.keep (h : Net F p A c most ms w) (hb : Below w.heap.size w w') : Net F p A c most ms w' := h.fr (Fr.quiet (S := fun _ => False) hb) fun _ _ h => h
theorem Net.cell0 (h : Net F p A c most ms w) : w.cell? ⟨p, 0, none⟩ = some (.slice A ms.length c) := by rw [h.blk.cell]; rfl
theorem Net.cell1 (h : Net F p A c most ms w) : w.cell? ⟨p, 1, none⟩ = some (.int .i64 (most : Int)) := by rw [h.blk.cell]; rfl
theorem Net.cell2 (h : Net F p A c most ms w) : w.cell? ⟨p, 2, none⟩ = some (.int .i64 ((tot ms : Nat) : Int)) := by rw [h.blk.cell]; rfl
theorem Net.row_at (h : Net F p A c most ms w) {i : Nat} {m : Ms} (hm : ms[i]? = some m) : ∃ g, A = some ⟨g, 0, none⟩ ∧ w.cell? ⟨g, i, none⟩ = some m.v ∧ w.frozen? ⟨g, i, none⟩ = false := by
  have hlt : i < ms.length := (List.getElem?_eq_some_iff.1 hm).1
  obtain ⟨g, hA, _, _, hc, hz, _⟩ := h.own.at_ (k := i) (by rw [List.length_map]; exact hlt)
  refine ⟨g, hA, ?_, hz⟩
  rw [hc, List.getElem_map, (List.getElem?_eq_some_iff.1 hm).2]
theorem Net.row (h : Net F p A c most ms w) {k : Nat} (hk : A.map (·.block) = some k) : A = some ⟨k, 0, none⟩ := by
  rcases h.own.form with ⟨e, _⟩ | ⟨g, e, _⟩
  · rw [e] at hk; cases hk
  · rw [e] at hk; injection hk with hk; dsimp only at hk; rw [e, hk]
/-- What an append to the net's row turns, behind a new block. -/
theorem Net.grown (h : Net F p A c most ms w) (hb : Below w.heap.size w w1) {o : Obj} (hg : (w1.alloc o).grownBy w2 (A.map (·.block))) : Fr (fun k => A = some ⟨k, 0, none⟩) (w1.alloc o) w2 := Fr.grown (S := fun k => A = some ⟨k, 0, none⟩) hg (fun k hk => h.row hk)
theorem Net.notrow (h : Net F p A c most ms w) (q : Nat) (hq : q = p) : ¬ (A = some ⟨q, 0, none⟩) := fun e => (h.foot.2 q e).2 hq
/-- One message more: what Send leaves. -/
theorem Net.push (h : Net F p A c most ms w) {l : List UInt8} (hl : l.length ≤ 131072) (hn : ms.length < most) (ht : tot ms + l.length ≤ 134217728) {A1 : Option Addr} {c1 : Nat}
    (ho : Mem.Own w1 w.heap.size 5 A1 c1 (l.map u8v)) (hb : Below w.heap.size w w1) (o : Obj) {A2 : Option Addr} {c2 : Nat}
    (ho2 : Mem.Own w2 0 22 A2 c2 (ms.map Ms.v ++ [Ms.v ⟨A1, l, c1⟩])) (hg : (w1.alloc o).grownBy w2 (A.map (·.block))) (hA2 : A2 = A ∨ A2 = some ⟨w1.heap.size + 1, 0, none⟩) :
    ∃ F', Net F' p A2 c2 most (ms ++ [⟨A1, l, c1⟩]) ((w2.setCell ⟨p, 0, none⟩ (.slice A2 (ms.length + 1) c2)).setCell ⟨p, 2, none⟩ (.int .i64 ((tot ms : Int) + (l.length : Int)))) ∧ Grow F F' w ∧
      Fr F w ((w2.setCell ⟨p, 0, none⟩ (.slice A2 (ms.length + 1) c2)).setCell ⟨p, 2, none⟩ (.int .i64 ((tot ms : Int) + (l.length : Int)))) := by
  have hp := h.lt p h.foot.1
  have hsz := hb.size
  have hs2 : w1.heap.size + 1 ≤ w2.heap.size := by have := hg.size; rwa [World.size_alloc] at this
  have hAg : ∀ g, A = some ⟨g, 0, none⟩ → g < w.heap.size ∧ g ≠ p := fun g hg' => ⟨h.lt g (h.foot.2 g hg').1, (h.foot.2 g hg').2⟩
  have hrow : ∀ k, A.map (·.block) = some k → A = some ⟨k, 0, none⟩ := fun k hk => by
    rcases h.own.form with ⟨e, _⟩ | ⟨g, e, _⟩
    · rw [e] at hk; cases hk
    · rw [e] at hk; injection hk with hk; dsimp only at hk; rw [e, hk]
  have f12 : Fr (fun k => A = some ⟨k, 0, none⟩) w1 w2 := (Fr.quiet (S := fun k => A = some ⟨k, 0, none⟩) (nextA (Mem.start w1) o)).trans (Fr.grown (S := fun k => A = some ⟨k, 0, none⟩) hg (fun k hk => hrow k hk)) fun _ _ h => h
  have f1W : Fr (fun k => A = some ⟨k, 0, none⟩ ∨ k = p) w1 ((w2.setCell ⟨p, 0, none⟩ (.slice A2 (ms.length + 1) c2)).setCell ⟨p, 2, none⟩ (.int .i64 ((tot ms : Int) + (l.length : Int)))) :=
    ((f12.mono fun k _ h => .inl h).setCell (p := ⟨p, 0, none⟩) (fun _ => .inr rfl) _).setCell (p := ⟨p, 2, none⟩) (fun _ => .inr rfl) _
  have fW : Fr (fun k => A = some ⟨k, 0, none⟩ ∨ k = p) w ((w2.setCell ⟨p, 0, none⟩ (.slice A2 (ms.length + 1) c2)).setCell ⟨p, 2, none⟩ (.int .i64 ((tot ms : Int) + (l.length : Int)))) := (Fr.quiet hb).trans f1W fun _ _ h => h
  have hA2p : ∀ g, A2 = some ⟨g, 0, none⟩ → g ≠ p ∧ (A = some ⟨g, 0, none⟩ ∨ g = w1.heap.size + 1) := fun g hg' => by
    rcases hA2 with e | e
    · rw [e] at hg'; exact ⟨(hAg g hg').2, .inl hg'⟩
    · rw [e] at hg'; injection hg' with hg'; injection hg' with hg'; exact ⟨by omega, .inr hg'.symm⟩
  have hA1 : ∀ g, A1 = some ⟨g, 0, none⟩ → w.heap.size ≤ g ∧ g < w1.heap.size := fun g hg' => by
    rcases ho.form with ⟨e, _⟩ | ⟨g', e, h1, h2, _⟩
    · rw [e] at hg'; cases hg'
    · rw [e] at hg'; injection hg' with hg'; injection hg' with hg'; subst hg'; exact ⟨h1, h2⟩
  have hWs : w2.heap.size = ((w2.setCell ⟨p, 0, none⟩ (.slice A2 (ms.length + 1) c2)).setCell ⟨p, 2, none⟩ (.int .i64 ((tot ms : Int) + (l.length : Int)))).heap.size := by simp [World.setCell]
  refine ⟨fun k => F k ∨ A1 = some ⟨k, 0, none⟩ ∨ A2 = some ⟨k, 0, none⟩, ⟨?_, ?_, ?_, ?_, ?_, ?_⟩, ?_, fW.mono fun k _ hk => hk.elim (fun e => (h.foot.2 k e).1) (fun e => by rw [e]; exact h.foot.1)⟩
  · have hb2 : Blk w2 p 49 _ := (h.blk.keep hb).fr f12 (fun e => (hAg p e).2 rfl)
    have := (hb2.set_ 0 (.slice A2 (ms.length + 1) c2)).set_ 2 (.int .i64 ((tot ms : Int) + (l.length : Int)))
    rw [List.length_append, List.length_singleton, tot_snoc, show (((tot ms + l.length : Nat)) : Int) = (tot ms : Int) + (l.length : Int) from by simp]
    exact this
  · rw [List.map_append]
    exact (ho2.set_far (fun g hg' e => (hA2p g hg').1 e.symm)).set_far (fun g hg' e => (hA2p g hg').1 e.symm)
  · intro m hm
    rcases List.mem_append.1 hm with hm | hm
    · obtain ⟨h1, h2, h3, h4⟩ := h.msg m hm
      refine ⟨bytesFr h1 fW (fun b o e hl' hk => ?_), h2, h3, fun hl' => ?_⟩
      · obtain ⟨b', o', e', hF, hbp, hbA⟩ := h4 hl'
        rw [e] at e'; injection e' with e'; injection e' with e' _; subst e'
        exact hk.elim hbA hbp
      · obtain ⟨b', o', e', hF, hbp, hbA⟩ := h4 hl'
        refine ⟨b', o', e', .inl hF, hbp, fun e => ?_⟩
        rcases (hA2p b' e).2 with e2 | e2
        · exact hbA e2
        · have := h.lt b' hF; omega
    · obtain rfl := List.mem_singleton.1 hm
      refine ⟨bytesFr ho.bytes f1W (fun b o (e : A1 = some ⟨b, o, none⟩) hl' hk => ?_), by have := ho.le; simpa using this, hl, fun hl' => ?_⟩
      · rcases ho.form with ⟨e2, _⟩ | ⟨g', e2, h1, h2, _⟩
        · rw [e] at e2; cases e2
        · rw [e] at e2; injection e2 with e2; injection e2 with e2; subst e2
          rcases hk with hk | hk
          · have := (hAg b hk).1; omega
          · omega
      · rcases ho.form with ⟨e2, _, e3⟩ | ⟨g', e2, h1, h2, _⟩
        · rw [List.map_eq_nil_iff] at e3; dsimp only at hl'; rw [e3] at hl'; simp at hl'
        · refine ⟨g', 0, e2, .inr (.inl e2), by omega, fun e => ?_⟩
          rcases (hA2p g' e).2 with e4 | e4
          · have := (hAg g' e4).1; omega
          · omega
  · exact ⟨.inl h.foot.1, fun g hg' => ⟨.inr (.inr hg'), (hA2p g hg').1⟩⟩
  · intro k hk
    rw [← hWs]
    rcases hk with hk | hk | hk
    · have := h.lt k hk; omega
    · have := (hA1 k hk).2; omega
    · rcases ho2.form with ⟨e, _⟩ | ⟨g, e, _, h2, _⟩
      · rw [hk] at e; cases e
      · rw [hk] at e; injection e with e; injection e with e; omega
  · refine ⟨h.bound.1, by rw [List.length_append]; exact hn, by rw [tot_snoc]; exact ht⟩
  · intro k hk
    rcases hk with hk | hk | hk
    · exact .inl hk
    · exact .inr (hA1 k hk).1
    · rcases (hA2p k hk).2 with e | e
      · exact .inl (h.foot.2 k e).1
      · exact .inr (by omega)
end
/-- The net, by what it holds. -/
def NetA (F : Nat → Prop) (p most : Nat) (L : List (List UInt8)) (w : World) : Prop := ∃ A c ms, ms.map Ms.l = L ∧ Net F p A c most ms w
/-- What a call that turns the net leaves. -/
def NetOk (w : World) (F : Nat → Prop) (p most : Nat) (L : List (List UInt8)) (v : Value) (e : Ending) (w' : World) : Prop := e = .returned v ∧ ∃ F', NetA F' p most L w' ∧ Grow F F' w ∧ Fr F w w'
theorem NetOk.same {w w' : World} {F : Nat → Prop} {p most : Nat} {L : List (List UInt8)} {v : Value} (h : NetA F p most L w) (hb : Below w.heap.size w w') : NetOk w F p most L v (.returned v) w' := by
  obtain ⟨A, c, ms, e, hn⟩ := h
  exact ⟨rfl, F, ⟨A, c, ms, e, hn.keep hb⟩, fun _ h => .inl h, Fr.quiet hb⟩
end Go.Proofs.Ytdgaicnnaidkkaa.NtW
