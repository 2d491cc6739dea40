/- slices.AppendSeq and slices.Collect over points.first. -/
import Derived.Test.YtaeoocpiggebmaaPtFirst
namespace Go.Proofs.Ytaeoocpiggebmaa.PtW
open Go.RowKit Go.Shelf Mem Gf FdW Rng
set_option linter.unusedVariables false
attribute [local go_sem] Oper.semAt_some wide_fn
attribute [-go_sem] Builtin.append_

theorem u8info : (Try.prog.info? 5).map (fun i => (i.zero, i.size, i.bytes)) = some (some (Value.int .u8 0), 1, 1) := by kernel_rfl
theorem build1 (W : World) (v : Int) : (Instr.buildSlice 24 1 #[(0, .int .u8 v)]).run Try.prog W = .ok (.slice (some ⟨W.heap.size, 0, none⟩) 1 1) (W.alloc (.cells #[.int .u8 v] 5)) := by kernel_rfl
/-- The blocks that a round turns: the row's, the box's, and new ones. -/
def SeqT (A : Option Addr) (D0 k : Nat) : Prop := A = some ⟨k, 0, none⟩ ∨ k = D0 ∨ D0 + 7 ≤ k
def SeqF (p : Nat) (A : Option Addr) (k : Nat) : Prop := k = p ∨ A = some ⟨k, 0, none⟩
def SeqI (w : World) (p base : Nat) (A : Option Addr) (l pre : List UInt8) (W : World) : Prop :=
  Fld W p ∧ Fr (SeqF p A) w W ∧ ∃ A' c', Blk W w.heap.size 24 #[.slice A' (l.length + pre.length) c'] ∧ Mem.Own W base 5 A' c' ((l ++ pre).map u8v) ∧ (A' = A ∨ ∃ g, A' = some ⟨g, 0, none⟩ ∧ w.heap.size + 7 ≤ g)
theorem SeqI.fr {w : World} {p base : Nat} {A : Option Addr} {l pre : List UInt8} {W W' : World} {S : Nat → Prop} (h : SeqI w p base A l pre W) (hf : Fr S W W') (hS : ∀ k, S k → k = p ∨ (w.heap.size + 1 ≤ k ∧ k < w.heap.size + 7)) (hp : p < w.heap.size)
    (hA : ∀ k, A = some ⟨k, 0, none⟩ → k ≠ p ∧ k < w.heap.size) (hF : Fld W' p) : SeqI w p base A l pre W' := by
  obtain ⟨_, h2, A', c', h3, h4, h5⟩ := h
  refine ⟨hF, h2.trans hf (fun i hi hs => ?_), A', c', h3.fr hf (fun hs => ?_), h4.fr hf (fun g hg hs => ?_), h5⟩
  · rcases hS i hs with h | h
    · exact .inl h
    · omega
  · rcases hS _ hs with h | h <;> omega
  · rcases h5 with rfl | ⟨g', e, h6⟩
    · have := hA g hg
      rcases hS _ hs with h | h <;> omega
    · rw [e] at hg; injection hg with hg; injection hg with hg
      rcases hS _ hs with h | h <;> omega

set_option maxRecDepth 100000 in
set_option maxHeartbeats 4000000 in
theorem appendSeq_any (w : World) (p C0 C1 B0 B1 B2 a s n N : Nat) (hs : 1 ≤ s) (hN : a + s * N ≤ 1000) (hn : n ≤ N) (hn0 : n ≤ 1000) (hF : Fld w p) (base : Nat) (hbase : base ≤ w.heap.size) (A : Option Addr) (l : List UInt8) (m c : Nat) (hm : m = l.length)
    (hown : Mem.Own w base 5 A c (l.map u8v)) (hle : l.length ≤ 1000) (hA : ∀ k, A = some ⟨k, 0, none⟩ → k ≠ p ∧ k ≠ B0 ∧ k ≠ B1 ∧ k ≠ B2) (hne : B0 ≠ p ∧ B1 ≠ p ∧ B2 ≠ p)
    (hc0 : w.cell? ⟨C0, 0, none⟩ = some (.int .i64 (n : Int))) (hc1 : w.cell? ⟨C1, 0, none⟩ = some (.func (.func 33) #[] #[.pointer (some ⟨B1, 0, none⟩), .pointer (some ⟨B0, 0, none⟩), .pointer (some ⟨B2, 0, none⟩)]))
    (h0 : w.cell? ⟨B0, 0, none⟩ = some (.pointer (some ⟨p, 0, none⟩))) (h1 : w.cell? ⟨B1, 0, none⟩ = some (.int .i64 (a : Int))) (h2 : w.cell? ⟨B2, 0, none⟩ = some (.int .i64 (s : Int))) :
    Calls Try.prog 28 #[.slice A m c, .func (.func 32) #[] #[.pointer (some ⟨C0, 0, none⟩), .pointer (some ⟨C1, 0, none⟩)]] w fun e w' =>
      ∃ A' c', e = .returned (.slice A' (l.length + n) c') ∧ Mem.Own w' base 5 A' c' ((l ++ (List.range n).map (pl a s)).map u8v) ∧ (A' = A ∨ ∃ g, A' = some ⟨g, 0, none⟩ ∧ w.heap.size ≤ g) ∧ Fld w' p ∧ Fr (SeqF p A) w w' := by
  subst hm
  obtain ⟨i0, hi0, hz0, hz1, hz2⟩ := info_parts u8info
  refine of_wide ?_
  refine callsIn_of_wp_marks Try.func28 rfl trivial ?_ rfl
  refine wpIn_wide.2 ?_
  simp only [Try.ntmps28, List.size_toArray, List.length_cons, List.length_nil, Nat.reduceAdd, Nat.reduceSub, Array.replicate_succ, Array.replicate_zero, List.push_toArray, List.append_toArray, List.nil_append, List.cons_append]
  have hbl := nextA (Mem.start w) (.cells #[.slice A l.length c] 24)
  have HK := Lib.hid (And.intro ((hbl.cell (p := ⟨C0, 0, none⟩) (World.block_lt_of_cell? _ _ hc0)).trans hc0) (And.intro ((hbl.cell (p := ⟨C1, 0, none⟩) (World.block_lt_of_cell? _ _ hc1)).trans hc1) (And.intro ((hbl.cell (p := ⟨B0, 0, none⟩) (World.block_lt_of_cell? _ _ h0)).trans h0) (And.intro ((hbl.cell (p := ⟨B1, 0, none⟩) (World.block_lt_of_cell? _ _ h1)).trans h1) ((hbl.cell (p := ⟨B2, 0, none⟩) (World.block_lt_of_cell? _ _ h2)).trans h2)))))
  have l0 := World.block_lt_of_cell? _ _ h0
  have l1 := World.block_lt_of_cell? _ _ h1
  have l2 := World.block_lt_of_cell? _ _ h2
  dsimp only at l0 l1 l2
  have HL := Lib.hid (And.intro l0 (And.intro l1 l2))
  have HP := Lib.hid hF.lt
  have HAL := Lib.hid (show ∀ k, A = some ⟨k, 0, none⟩ → k ≠ p ∧ k < w.heap.size from fun k hk => ⟨(hA k hk).1, by
    rcases hown.form with ⟨e, _⟩ | ⟨g, e, _, h, _⟩
    · rw [hk] at e; cases e
    · rw [hk] at e; injection e with e; injection e with e; omega⟩)
  have HI := Lib.hid (show SeqI w p base A l [] (w.alloc (.cells #[.slice A l.length c] 24)) from
    ⟨hF.keep hbl, Fr.quiet hbl, A, c, Blk.new w _ _, by rw [List.append_nil]; exact hown.keep hbl, .inl rfl⟩)
  have HN := Lib.hid (And.intro (And.intro hs (And.intro hN (And.intro hn hn0))) (And.intro hne (And.intro hA (And.intro hle hbase))))
  have HZ := Lib.hid (And.intro hi0 (And.intro hz0 (And.intro hz1 hz2)))
  clear hbl hc0 hc1 h0 h1 h2 l0 l1 l2 hF hown hs hN hn hn0 hne hA hle hbase hi0 hz0 hz1 hz2
  go_wp2_with fail
  have HS1 := Lib.hid (World.size_alloc w (.cells #[.slice A l.length c] 24))
  generalize w.alloc (.cells #[.slice A l.length c] 24) = w1 at *
  refine (wpIn_wide (n := 5)).1 ?_
  refine wpIn_rangeT (gf := 32) (lb := #[.pointer (some ⟨C0, 0, none⟩), .pointer (some ⟨C1, 0, none⟩)]) (encs := fun c : UInt8 => #[.int .u8 (c.toNat : Int)]) rfl (enters_of Try.func32 (by kernel_rfl) rfl) (fun _ => rfl)
    (fun pre W' => SeqI w p base A l pre W') (fun _ _ _ => False) (fun pre x W1 => x = pl a s pre.length ∧ w1.heap.size + 6 ≤ W1.heap.size ∧ pre.length < n) (SeqT A w.heap.size) (S := fun xs => xs = (List.range n).map (pl a s)) (Sp := fun _ => False) ?hsb
    (first_callT w1 p C0 C1 B0 B1 B2 a s n N HN.out.1.1 HN.out.1.2.1 HN.out.1.2.2.1 HN.out.1.2.2.2 (SeqT A w.heap.size) _ _ HN.out.2.1 ?hsb2 ?hsd (by have := HP.out; have := HS1.out; omega) HK.out.1 HK.out.2.1 HK.out.2.2.1 HK.out.2.2.2.1 HK.out.2.2.2.2 (fun pre W1 h => h.1) ?hit (fun _ _ _ h => h))
    ?hI ?hIx ?hLX ?h0 ?round ?done ?stop
  case hsb =>
    rw [HS1.out]
    exact ⟨fun h => h.elim (fun h => by have := HAL.out _ h; omega) (by omega), fun h => h.elim (fun h => by have := HAL.out _ h; omega) (by omega)⟩
  case hsb2 =>
    have h1 := HL.out
    exact ⟨fun h => h.elim (fun h => (HN.out.2.2.1 _ h).2.1 rfl) (by omega), fun h => h.elim (fun h => (HN.out.2.2.1 _ h).2.2.1 rfl) (by omega), fun h => h.elim (fun h => (HN.out.2.2.1 _ h).2.2.2 rfl) (by omega)⟩
  case hsd =>
    rw [HS1.out]
    exact fun k h1 h2 h => h.elim (fun h => by have := HAL.out _ h; omega) (by omega)
  case hit =>
    intro pre W1 W2 h hf hF
    rw [HS1.out] at hf
    exact h.fr hf (fun k h => h.imp id (fun h => by omega)) HP.out HAL.out hF
  case hI =>
    intro pre W1 W2 h hf
    rw [HS1.out] at hf
    exact h.fr hf (fun k h => .inr (by omega)) HP.out HAL.out (h.1.fr hf (by have := HP.out; omega))
  case hIx => exact fun _ _ _ _ h => h.elim
  case hLX => exact fun pre x W1 W2 h hf => ⟨h.1, Nat.le_trans h.2.1 hf.size, h.2.2⟩
  case h0 =>
    intro W1 hb _
    have hf : Fr (fun _ => False) w1 W1 := Fr.quiet hb
    exact HI.out.fr hf (fun k h => h.elim) HP.out HAL.out (HI.out.1.keep hb)
  case round =>
    rintro lp pre x W1 hI1 hx1
    gi_wp2
    refine ⟨trivial, ?_⟩
    clear hI1 hx1
    rintro W2 ⟨hf2, hfr2, A', c', hb2, ho2, hA2⟩ ⟨rfl, hsz, hpn⟩
    obtain ⟨m, hm⟩ : ∃ m, l.length + pre.length = m := ⟨_, rfl⟩
    rw [hm] at hb2
    generalize pl a s pre.length = x at *
    have k8 := one hb2
    have hbd := build1 W2 (x.toNat : Int)
    have hlen : ((l ++ pre).map u8v).length = m := by rw [List.length_map, List.length_append]; exact hm
    have hm2 : m ≤ 2000 := by have := HN.out.2.2.2.1; have := HN.out.1.2.2.2; omega
    have hs2 : base ≤ W2.heap.size := by have := HN.out.2.2.2.2; have := HS1.out; omega
    obtain ⟨A2, c2, w5, hrun, ho5, hg5, hA5⟩ := run_app (P := Try.prog) (W2.alloc (.cells #[.int .u8 (x.toNat : Int)] 5)) base 24 24 5 i0 _ 1 Try.underlying24 HZ.out.1 HZ.out.2.1 HZ.out.2.2.1 HZ.out.2.2.2 rfl A' c' ((l ++ pre).map u8v) (ho2.alloc _)
      (W2.heap.size + 1) (some ⟨W2.heap.size, 0, none⟩) 1 [.int .u8 (x.toNat : Int)] (cells_one W2 _ _ _ (by omega)) (by simp [Value.oneCell']) (by rw [hlen]; simp [maxLen]; omega) (by rw [hlen]; simp; omega) (by simp; omega)
    rw [hlen, List.length_singleton] at hrun
    rw [ownBlock_eq] at hg5
    rw [World.size_alloc] at hA5
    have hA'ne : ∀ k, A'.map (·.block) = some k → SeqT A w.heap.size k := fun k hk => by
      rcases hA2 with rfl | ⟨g, rfl, h⟩
      · cases hA' : A' with
        | none => rw [hA'] at hk; cases hk
        | some q =>
          rcases ho2.form with ⟨e, _⟩ | ⟨g, e, _⟩
          · rw [hA'] at e; cases e
          · rw [e] at hk; injection hk with hk; rw [hA'] at e; injection e with e; subst e; left; dsimp only at hk; rw [hk]
      · injection hk with hk; dsimp only at hk; subst hk; exact .inr (.inr h)
    have hf25 : Fr (fun k => A'.map (·.block) = some k) W2 w5 := ((Fr.refl _ W2).alloc (.cells #[.int .u8 (x.toNat : Int)] 5)).trans (Fr.grown (S := fun k => A'.map (·.block) = some k) hg5 fun k h => h) fun k _ h => h
    have hAA : ∀ k, A'.map (·.block) = some k → A = some ⟨k, 0, none⟩ ∨ w.heap.size + 7 ≤ k := fun k hk => by
      rcases hA2 with rfl | ⟨g, rfl, h⟩
      · rcases ho2.form with ⟨e, _⟩ | ⟨g, e, _⟩
        · rw [e] at hk; cases hk
        · rw [e] at hk; injection hk with hk; dsimp only at hk; subst hk; exact .inl e
      · injection hk with hk; dsimp only at hk; subst hk; exact .inr h
    have hb5 := hb2.fr hf25 (fun h => (hAA _ h).elim (fun h => by have := HAL.out _ h; omega) (by omega))
    have hF5 := hf2.fr hf25 (fun h => (hAA _ h).elim (fun h => (HAL.out _ h).1 rfl) (by have := HP.out; omega))
    have kz := hb5.frozen 0
    have k5 := one hb5
    have H5 := Lib.hid (And.intro (And.intro hf25 (And.intro hfr2 hAA)) (And.intro (And.intro hb5 hF5) (And.intro ho5 (And.intro hA2 hA5))))
    have HM := Lib.hid (And.intro hm (And.intro hsz hs2))
    have HSP := Lib.hid hA'ne
    clear hf25 hfr2 hAA hb5 hF5 ho5 hA2 hA5 hm hsz hpn hlen hm2 hs2 hg5 hf2 hb2 ho2 hA'ne
    gi_wp2
    have hA2k : ∀ k, A2 = some ⟨k, 0, none⟩ → SeqT A w.heap.size k := fun k hk => by
      rcases H5.out.2.2.2.2 with h | h
      · rw [h] at hk; exact HSP.out k (by rw [hk]; rfl)
      · rw [h] at hk; injection hk with hk; injection hk with hk; have := HM.out.2.1; have := HS1.out; exact .inr (.inr (by omega))
    have hA2n : ∀ k, A2 = some ⟨k, 0, none⟩ → w.heap.size ≠ k := fun k hk e => by
      rcases hA2k k hk with h | h
      · have := HAL.out _ h; omega
      · rcases H5.out.2.2.2.2 with h' | h'
        · rw [h'] at hk
          rcases H5.out.1.2.2 k (by rw [hk]; rfl) with h | h
          · have := HAL.out _ h; omega
          · omega
        · rw [h'] at hk; injection hk with hk; injection hk with hk; have := HM.out.2.1; have := HS1.out; omega
    have hfin : Fr (SeqT A w.heap.size) W2 (w5.setCell ⟨w.heap.size, 0, none⟩ (.slice A2 (m + 1) c2)) := (H5.out.1.1.mono fun k _ h => HSP.out k h).setCell (fun _ => .inr (.inl rfl)) _
    refine ⟨hfin, ?_, ?_, A2, c2, ?_, ?_, ?_⟩
    · exact H5.out.2.1.2.fr (Fr.setCell (S := fun k => k = w.heap.size) (Fr.refl _ w5) (p := ⟨w.heap.size, 0, none⟩) (fun _ => rfl) _) (by have := HP.out; omega)
    · refine Fr.setCell (S := SeqF p A) (H5.out.1.2.1.trans H5.out.1.1 fun k hk h => ?_) (p := ⟨w.heap.size, 0, none⟩) (fun h => absurd h (by simp)) _
      rcases H5.out.1.2.2 k h with h | h
      · exact .inr h
      · omega
    · have := H5.out.2.1.1.set_ 0 (.slice A2 (m + 1) c2)
      have e1 : l.length + (pre ++ [x]).length = m + 1 := by rw [List.length_append, List.length_singleton]; have := HM.out.1; omega
      rw [e1]; exact this
    · have := H5.out.2.2.1.set_far (p := ⟨w.heap.size, 0, none⟩) (u := .slice A2 (m + 1) c2) (fun g hg => hA2n g hg)
      have e2 : (l ++ (pre ++ [x])).map u8v = (l ++ pre).map u8v ++ [.int .u8 (x.toNat : Int)] := by rw [← List.append_assoc, List.map_append (l₁ := l ++ pre)]; rfl
      rw [e2]; exact this
    · rcases H5.out.2.2.2.2 with h | h
      · rw [h]; exact H5.out.2.2.2.1
      · exact .inr ⟨_, h, by have := HM.out.2.1; have := HS1.out; omega⟩
  case done =>
    rintro D xs W hD rfl ⟨hf2, hfr2, A', c', hb2, ho2, hA2⟩ hK
    rw [HS1.out] at hD
    have hlen : l.length + ((List.range n).map (pl a s)).length = l.length + n := by rw [List.length_map, List.length_range]
    rw [hlen] at hb2
    have k8 := one hb2
    have H5 := Lib.hid (And.intro (And.intro hf2 hfr2) (And.intro ho2 (And.intro hA2 (And.intro hD hK))))
    clear hf2 hfr2 hb2 ho2 hA2 hD hK hlen
    go_wp2_with fail
    have hKD := H5.out.2.2.2.2
    refine ⟨by simp, .inl ⟨_, _, rfl, run_takeDeferred hKD, ?_⟩⟩
    have hfs : Fr (fun k => k = D) W (W.putObj D (.deferred none)) := put_fr _
    have hDw : D = w.heap.size + 1 := H5.out.2.2.2.1
    have hgA : ∀ g, A' = some ⟨g, 0, none⟩ → g ≠ D := fun g hg e => by
      rcases H5.out.2.2.1 with h | ⟨g', h, h'⟩
      · rw [h] at hg; have := HAL.out g hg; omega
      · rw [h] at hg; injection hg with hg; injection hg with hg; omega
    refine ⟨.slice A' (l.length + n) c', ?_, A', c', rfl, ?_, ?_, ?_, ?_⟩
    · simp [results, Try.results28, go_sem]
    · exact H5.out.2.1.fr hfs (fun g hg => hgA g hg)
    · rcases H5.out.2.2.1 with h | ⟨g, h, h'⟩
      · exact .inl h
      · exact .inr ⟨g, h, by omega⟩
    · exact H5.out.1.1.fr hfs (by have := HP.out; omega)
    · exact shut_fr H5.out.1.2 (by omega) _
  case stop => exact fun _ _ _ _ _ h => h.elim
end Go.Proofs.Ytaeoocpiggebmaa.PtW
