/- The one matrix. -/
import Derived.Test.YthdapoipfnnaeaaMxRng
namespace Go.Proofs.Ythdapoipfnnaeaa.MxW
open Go.RowKit Go.Shelf Mem Gf FdW Mx Rng
set_option linter.unusedVariables false
attribute [local go_sem] Oper.semAt_some wide_fn

/-- Bytes that are new since block B. -/
def Nw (B : Nat) (w : World) (A : Option Addr) (l : List UInt8) : Prop := Bytes w w.heap.size A l ∧ ∀ b o, A = some ⟨b, o, none⟩ → 0 < l.length → B ≤ b
theorem Nw.keep {B : Nat} {w w' : World} {A : Option Addr} {l : List UInt8} (h : Nw B w A l) (hb : Below w.heap.size w w') : Nw B w' A l := ⟨(h.1.below hb).up hb.size, h.2⟩
theorem Nw.of_own {B c : Nat} {w : World} {A : Option Addr} {l : List UInt8} (h : Mem.Own w B 5 A c (l.map u8v)) : Nw B w A l := ⟨h.bytes, fun b o e hl => by
  rcases h.form with ⟨e2, _⟩ | ⟨g, e2, hb, _⟩
  · rw [e] at e2; cases e2
  · rw [e] at e2; injection e2 with e2; have := congrArg Addr.block e2; dsimp only at this; omega⟩
theorem Nw.mono {B B' : Nat} {w : World} {A : Option Addr} {l : List UInt8} (h : Nw B w A l) (hB : B' ≤ B) : Nw B' w A l := ⟨h.1, fun b o e hl => Nat.le_trans hB (h.2 b o e hl)⟩
/-- A new matrix. -/
def NewM (w : World) (r c : Nat) (m : M) (e : Ending) (w' : World) : Prop := ∃ A cap, e = .returned (.agg #[.int .i64 (r : Int), .int .i64 (c : Int), .slice A (r * c) cap]) ∧ r * c ≤ cap ∧ Nw w.heap.size w' A (flat r c m) ∧ Below w.heap.size w w'
def idm : M := fun i k => if i = k then 1 else 0
def oneM (j : Nat) : M := fun i k => if i < j ∧ i = k then 1 else 0
/-- A matrix being written, in block g. -/
def Wm (w : World) (B g cap r c : Nat) (m : M) : Prop := Mem.Own w B 5 (some ⟨g, 0, none⟩) cap ((flat r c m).map u8v)
section
variable {w w' : World} {B g cap r c : Nat} {m m' : M}
theorem Wm.fr {S : Nat → Prop} (h : Wm w B g cap r c m) (hf : Fr S w w') (hg : ¬ S g) : Wm w' B g cap r c m := Own.fr h hf fun g' e => by injection e with e; have := congrArg Addr.block e; dsimp only at this; rw [← this]; exact hg
theorem Wm.keep (h : Wm w B g cap r c m) (hb : Below w.heap.size w w') : Wm w' B g cap r c m := Own.keep h hb
theorem Wm.at_ (h : Wm w B g cap r c m) {i k : Nat} (hi : i < r) (hk : k < c) : w.cell? ⟨g, i * c + k, none⟩ = some (.int .u8 ((m i k).toNat : Int)) ∧ w.frozen? ⟨g, i * c + k, none⟩ = false := by
  obtain ⟨g', e, _, _, hc, hf, _⟩ := Own.at_ h (k := i * c + k) (by rw [List.length_map, flat_len]; exact idx_lt hi hk)
  injection e with e; have := congrArg Addr.block e; dsimp only at this; subst this
  rw [List.getElem_map, flat_getE hi hk] at hc
  exact ⟨hc, hf⟩
theorem Wm.set (h : Wm w B g cap r c m) {i k : Nat} (hi : i < r) (hk : k < c) (x : UInt8) : Wm (w.setCell ⟨g, i * c + k, none⟩ (.int .u8 (x.toNat : Int))) B g cap r c (upd m i k x) := by
  have := own_set h (k := i * c + k) (by rw [flat_len]; exact idx_lt hi hk) _ x rfl
  rw [flat_set hi hk] at this
  exact this
theorem Wm.congr (h : Wm w B g cap r c m) (hm : ∀ i, i < r → ∀ k, k < c → m i k = m' i k) : Wm w B g cap r c m' := by unfold Wm; rw [← flat_congr hm]; exact h
theorem Wm.form (h : Wm w B g cap r c m) : B ≤ g ∧ g < w.heap.size ∧ r * c ≤ cap ∧ cap ≤ maxLen := by
  rcases Own.form h with ⟨e, _⟩ | ⟨g', e, h1, h2, h3, h4⟩
  · cases e
  · injection e with e; have := congrArg Addr.block e; dsimp only at this; subst this
    rw [List.length_map, flat_len] at h3
    exact ⟨h1, h2, h3, h4⟩
theorem Wm.nw (h : Wm w B g cap r c m) : Nw B w (some ⟨g, 0, none⟩) (flat r c m) := Nw.of_own h
theorem setF {p : Nat} (w : World) (q : Addr) (h : q.block = p) (v : Value) : Fr (fun k => k = p) w (w.setCell q v) := Fr.setCell (p := q) (Fr.refl (fun k => k = p) w) (fun _ => h) v
end
/-- While the rows are gone over: the result's variable g0, the matrix' variable gm, its bytes in block g. -/
structure OneI (w : World) (g0 gm B g r : Nat) (i : Nat) (W : World) : Prop where
  below : Below w.heap.size w W
  res : Blk W g0 27 #[.int .i64 0, .int .i64 0, .slice none 0 0]
  var : Blk W gm 27 (mcells r r (some ⟨g, 0, none⟩) (r * r) (r * r))
  row : Wm W B g (r * r) r r (oneM i)
/-- A new variable: its world and its block by names. -/
theorem boxed (w : World) (cs : Array Value) : ∃ w' g, (Below w.heap.size w w' ∧ Blk w' g 27 cs ∧ w'.heap.size = g + 1) ∧ w.alloc (.cells cs 27) = w' ∧ w.heap.size = g :=
  ⟨_, _, ⟨nextA (Mem.start w) _, Blk.new w _ _, World.size_alloc _ _⟩, rfl, rfl⟩
set_option maxRecDepth 100000 in
set_option maxHeartbeats 2000000 in
theorem one_in (w : World) (r : Nat) (hr : (r : Int) ≤ 4096) : Calls Try.prog 27 #[.int .i64 (r : Int)] w (NewM w r r idm) := by
  have hq : ((r * r : Nat) : Int) ≤ 1000000000 := by
    have h1 : r * r ≤ 4096 * 4096 := Nat.mul_le_mul (by omega) (by omega)
    omega
  have hn0 : ¬ (r : Int) < 0 := by omega
  refine of_wide ?_
  refine callsIn_of_wp_marks Try.func27 rfl trivial ?_ rfl
  refine wpIn_wide.2 ?_
  simp only [Try.ntmps27, List.size_toArray, List.length_cons, List.length_nil, Nat.reduceAdd, Nat.reduceSub, Array.replicate_succ, Array.replicate_zero, List.push_toArray, List.append_toArray, List.nil_append, List.cons_append]
  obtain ⟨g0, hg0⟩ : ∃ x, w.heap.size = x := ⟨_, rfl⟩
  obtain ⟨w1, hw1⟩ : ∃ x : World, w.alloc (.cells #[.int .i64 0, .int .i64 0, .slice none 0 0] 27) = x := ⟨_, rfl⟩
  have hb1 : Below w.heap.size w w1 := by rw [← hw1]; exact nextA (Mem.start w) _
  have H1 := Lib.hid (show Below w.heap.size w w1 ∧ Blk w1 g0 27 #[.int .i64 0, .int .i64 0, .slice none 0 0] ∧ w1.heap.size = g0 + 1 from ⟨hb1, by rw [← hw1, ← hg0]; exact Blk.new w _ _, by rw [← hw1, World.size_alloc, hg0]⟩)
  have HW1 := Lib.hid hw1
  have HG0 := Lib.hid hg0
  have HQ := Lib.hid hq
  clear hb1 hw1 hg0 hq
  go_wp2_with fail
  rw [HW1.out, HG0.out]
  refine (none_any w1 r r HQ.out).mono ?_
  rintro e w2 ⟨g, rfl, ho, hb⟩
  have H2 := Lib.hid (show Below w.heap.size w w2 ∧ Blk w2 g0 27 #[.int .i64 0, .int .i64 0, .slice none 0 0] ∧ Wm w2 w1.heap.size g (r * r) r r (fun _ _ => 0) ∧ g0 + 1 ≤ w2.heap.size from ⟨next H1.out.1 hb, H1.out.2.1.keep hb, ho, by rw [← H1.out.2.2]; exact hb.size⟩)
  clear ho hb
  go_wp2_with fail
  obtain ⟨w3, gm, h3, hw3, hgm⟩ := boxed w2 (mcells r r (some ⟨g, 0, none⟩) (r * r) (r * r))
  have HW3 := Lib.hid (show w2.alloc (.cells #[.int .i64 (r : Int), .int .i64 (r : Int), .slice (some ⟨g, 0, none⟩) (r * r) (r * r)] 27) = w3 from hw3)
  have H3 := Lib.hid h3
  rw [HW3.out, hgm]
  have HGM := Lib.hid hgm
  clear hw3 hgm h3
  refine (rows_any w3 _ _ _).mono ?_
  rintro e w4' ⟨rfl, rfl⟩
  obtain ⟨w4, bm, h4, hw4, hbm⟩ := boxed w3 (mcells r r (some ⟨g, 0, none⟩) (r * r) (r * r))
  have HW4 := Lib.hid (show w3.alloc (.cells #[.int .i64 (r : Int), .int .i64 (r : Int), .slice (some ⟨g, 0, none⟩) (r * r) (r * r)] 27) = w4 from hw4)
  have H4 := Lib.hid h4
  rw [HW4.out, hbm]
  have HBM := Lib.hid hbm
  clear hw4 hbm h4
  go_wp2_with fail
  have hap : g0 + 1 = w1.heap.size ∧ w1.heap.size ≤ g ∧ g < gm ∧ bm = gm + 1 ∧ w4.heap.size = bm + 1 ∧ w.heap.size = g0 := by
    have h1 := H2.out.2.2.1.form
    have h2 := HGM.out; have h3 := HBM.out; have h4 := H3.out.2.2; have h5 := H4.out.2.2; have h6 := H1.out.2.2; have h7 := HG0.out
    omega
  have HAP := Lib.hid hap
  have HI0 := Lib.hid (show OneI w g0 gm w1.heap.size g r 0 w4 from
    ⟨next (next H2.out.1 H3.out.1) H4.out.1, (H2.out.2.1.keep H3.out.1).keep H4.out.1, H3.out.2.1.keep H4.out.1, ((H2.out.2.2.1.keep H3.out.1).keep H4.out.1).congr fun i _ k _ => by unfold oneM; rw [if_neg (by omega)]⟩)
  clear hap
  refine (wpIn_wide (n := 5)).1 ?_
  refine wpIn_rows bm r r (some ⟨g, 0, none⟩) (r * r) (r * r) rfl H4.out.2.1 (by omega) rfl HQ.out (Nat.le_refl _) (fun k => k = g) (by have := HAP.out; omega)
    (OneI w g0 gm w1.heap.size g r)
    ?hI HI0.out ?hround ?hdone
  case hI =>
    rintro i W W' ⟨h1, h2, h3, h4⟩ hf
    have hap := HAP.out
    exact ⟨h1.trans (hf.below h1.size fun k e => by rw [e]; omega), h2.fr hf (by omega), h3.fr hf (by omega), h4.fr hf (by omega)⟩
  case hround =>
    intro l i W hi hlt
    have HLT := Lib.hid hlt
    rw [show rowA (some ⟨g, 0, none⟩) r i = some ⟨g, i * r, none⟩ from by rw [rowA_some (by omega), Nat.zero_add]]
    obtain ⟨p, hp⟩ : ∃ p, i * r = p := ⟨_, rfl⟩
    rw [hp]
    have HP := Lib.hid hp
    have hir : (i : Int) < (r : Int) := by omega
    have hi0 : (0 : Int) ≤ (i : Int) := by omega
    clear hp hlt hi
    gi_wp2
    refine ⟨trivial, fun W2 hi2 => ?_⟩
    obtain ⟨hc, hz⟩ := hi2.row.at_ HLT.out HLT.out
    rw [HP.out] at hc hz
    have H := Lib.hid hi2
    clear hi2
    gi_wp2
    have hf := setF (p := g) W2 ⟨g, p + i, none⟩ rfl (.int .u8 1)
    have hap := HAP.out
    have hw := H.out.row.set HLT.out HLT.out 1
    rw [HP.out] at hw
    exact ⟨hf, H.out.1.trans (hf.below H.out.1.size fun k e => by rw [e]; omega), H.out.res.fr hf (by omega), H.out.var.fr hf (by omega), hw.congr fun i' _ k' _ => by unfold upd oneM; grind⟩
  case hdone =>
    intro D W hD hi hK
    have H := Lib.hid hi
    have HK := Lib.hid (And.intro hD hK)
    obtain ⟨⟨c0, c1, c2⟩, _⟩ := cells3 hi.var
    obtain ⟨⟨d0, d1, d2⟩, f0, f1, f2⟩ := cells3 hi.res
    obtain ⟨W3, hW3⟩ : ∃ x : World, ((W.setCell ⟨g0, 0, none⟩ (.int .i64 (r : Int))).setCell ⟨g0, 1, none⟩ (.int .i64 (r : Int))).setCell ⟨g0, 2, none⟩ (.slice (some ⟨g, 0, none⟩) (r * r) (r * r)) = x := ⟨_, rfl⟩
    have h3 := set3 hi.res (.int .i64 (r : Int)) (.int .i64 (r : Int)) (.slice (some ⟨g, 0, none⟩) (r * r) (r * r))
    rw [hW3] at h3
    have HW3 := Lib.hid hW3
    have HR := Lib.hid h3
    clear hi hK hD h3 hW3
    go_wp2_with fail
    rw [HW3.out]
    have hKD : W3.heap[D]? = some (.deferred (some [])) := by
      have h1 := (Array.getElem?_eq_some_iff.1 HK.out.2).1
      have hap := HAP.out
      have hd := HK.out.1
      rw [HR.out.2.block D h1 (by omega)]; exact HK.out.2
    have hst := shut_still (B := 0) (.deferred none) hKD rfl (Nat.zero_le _)
    obtain ⟨⟨e0, e1, e2⟩, _⟩ := cells3 (hst.blk HR.out.1)
    refine ⟨by simp, .inl ⟨_, _, rfl, run_takeDeferred hKD, ?_⟩⟩
    refine ⟨.agg #[.int .i64 (r : Int), .int .i64 (r : Int), .slice (some ⟨g, 0, none⟩) (r * r) (r * r)], ?_, ?_⟩
    · simp [results, Try.results27, go_sem, e0, e1, e2]
    · have hap := HAP.out
      have hb : Below w.heap.size w W3 := H.out.below.trans (HR.out.2.below H.out.below.size fun k e => by rw [e]; omega)
      have hw := (H.out.row.fr HR.out.2 (by omega)).congr (m' := idm) fun i hi k _ => by unfold oneM idm; simp [hi]
      refine ⟨some ⟨g, 0, none⟩, r * r, rfl, Nat.le_refl _, ?_, ?_⟩
      · exact Nw.of_own (Own.down (Own.fr hw (put_fr (k := D) _) (fun g' e1 e2 => by injection e1 with e1; have := congrArg Addr.block e1; dsimp only at this; have := HK.out.1; omega)) (by omega))
      · exact hb.trans ((put_fr (k := D) _).below hb.size fun k e => by rw [e]; have := HK.out.1; omega)
set_option maxRecDepth 100000 in
set_option maxHeartbeats 2000000 in
theorem one_out (w : World) (n : Int) (h : n < 0 ∨ 4096 < n) : Calls Try.prog 27 #[.int .i64 n] w (NewM w 0 0 idm) := by
  refine of_wide ?_
  refine callsIn_of_wp_marks Try.func27 rfl trivial ?_ rfl
  refine wpIn_wide.2 ?_
  simp only [Try.ntmps27, List.size_toArray, List.length_cons, List.length_nil, Nat.reduceAdd, Nat.reduceSub, Array.replicate_succ, Array.replicate_zero, List.push_toArray, List.append_toArray, List.nil_append, List.cons_append]
  obtain ⟨g0, hg0⟩ : ∃ x, w.heap.size = x := ⟨_, rfl⟩
  obtain ⟨w1, hw1⟩ : ∃ x : World, w.alloc (.cells #[.int .i64 0, .int .i64 0, .slice none 0 0] 27) = x := ⟨_, rfl⟩
  have hb1 : Below w.heap.size w w1 := by rw [← hw1]; exact nextA (Mem.start w) _
  have H1 := Lib.hid (show Below w.heap.size w w1 ∧ Blk w1 g0 27 #[.int .i64 0, .int .i64 0, .slice none 0 0] ∧ w1.heap.size = g0 + 1 from ⟨hb1, by rw [← hw1, ← hg0]; exact Blk.new w _ _, by rw [← hw1, World.size_alloc, hg0]⟩)
  have HW1 := Lib.hid hw1
  have HG0 := Lib.hid hg0
  clear hb1 hw1 hg0
  rcases h with h | h
  · have h1 : decide (n < 0) = true := decide_eq_true h
    go_wp2_with fail
    rw [HW1.out, HG0.out]
    refine (none_any w1 0 0 (by decide)).mono ?_
    rintro e w2 ⟨g, rfl, ho, hb⟩
    have H2 := Lib.hid (show Below w.heap.size w w2 ∧ Blk w2 g0 27 #[.int .i64 0, .int .i64 0, .slice none 0 0] ∧ Wm w2 w1.heap.size g (0) 0 0 (fun _ _ => 0) ∧ g0 + 1 ≤ w2.heap.size from ⟨next H1.out.1 hb, H1.out.2.1.keep hb, ho, by rw [← H1.out.2.2]; exact hb.size⟩)
    clear ho hb
    go_wp2_with fail
    obtain ⟨w3, gm, h3, hw3, hgm⟩ := boxed w2 (mcells 0 0 (some ⟨g, 0, none⟩) (0) (0))
    have HW3 := Lib.hid (show w2.alloc (.cells #[.int .i64 0, .int .i64 0, .slice (some ⟨g, 0, none⟩) (0) (0)] 27) = w3 from hw3)
    have H3 := Lib.hid h3
    rw [HW3.out, hgm]
    have HGM := Lib.hid hgm
    clear hw3 hgm h3
    refine (rows_any w3 _ _ _).mono ?_
    rintro e w4' ⟨rfl, rfl⟩
    obtain ⟨w4, bm, h4, hw4, hbm⟩ := boxed w3 (mcells 0 0 (some ⟨g, 0, none⟩) (0) (0))
    have HW4 := Lib.hid (show w3.alloc (.cells #[.int .i64 0, .int .i64 0, .slice (some ⟨g, 0, none⟩) (0) (0)] 27) = w4 from hw4)
    have H4 := Lib.hid h4
    rw [HW4.out, hbm]
    have HBM := Lib.hid hbm
    clear hw4 hbm h4
    go_wp2_with fail
    have hap : g0 + 1 = w1.heap.size ∧ w1.heap.size ≤ g ∧ g < gm ∧ bm = gm + 1 ∧ w4.heap.size = bm + 1 ∧ w.heap.size = g0 := by
      have h1 := H2.out.2.2.1.form
      have h2 := HGM.out; have h3 := HBM.out; have h4 := H3.out.2.2; have h5 := H4.out.2.2; have h6 := H1.out.2.2; have h7 := HG0.out
      omega
    have HAP := Lib.hid hap
    have HI0 := Lib.hid (show OneI w g0 gm w1.heap.size g 0 0 w4 from
      ⟨next (next H2.out.1 H3.out.1) H4.out.1, (H2.out.2.1.keep H3.out.1).keep H4.out.1, H3.out.2.1.keep H4.out.1, ((H2.out.2.2.1.keep H3.out.1).keep H4.out.1).congr fun i _ k _ => by unfold oneM; rw [if_neg (by omega)]⟩)
    clear hap
    refine (wpIn_wide (n := 5)).1 ?_
    refine wpIn_rows bm 0 0 (some ⟨g, 0, none⟩) (0) (0) rfl H4.out.2.1 (by omega) rfl (by decide) (Nat.le_refl _) (fun k => k = g) (by have := HAP.out; omega)
      (OneI w g0 gm w1.heap.size g 0)
      ?hI HI0.out ?hround ?hdone
    case hI =>
      rintro i W W' ⟨h1, h2, h3, h4⟩ hf
      have hap := HAP.out
      exact ⟨h1.trans (hf.below h1.size fun k e => by rw [e]; omega), h2.fr hf (by omega), h3.fr hf (by omega), h4.fr hf (by omega)⟩
    case hround =>
      intro l i W hi hlt
      omega
    case hdone =>
      intro D W hD hi hK
      have H := Lib.hid hi
      have HK := Lib.hid (And.intro hD hK)
      obtain ⟨⟨c0, c1, c2⟩, _⟩ := cells3 hi.var
      obtain ⟨⟨d0, d1, d2⟩, f0, f1, f2⟩ := cells3 hi.res
      obtain ⟨W3, hW3⟩ : ∃ x : World, ((W.setCell ⟨g0, 0, none⟩ (.int .i64 0)).setCell ⟨g0, 1, none⟩ (.int .i64 0)).setCell ⟨g0, 2, none⟩ (.slice (some ⟨g, 0, none⟩) (0) (0)) = x := ⟨_, rfl⟩
      have h3 := set3 hi.res (.int .i64 0) (.int .i64 0) (.slice (some ⟨g, 0, none⟩) (0) (0))
      rw [hW3] at h3
      have HW3 := Lib.hid hW3
      have HR := Lib.hid h3
      clear hi hK hD h3 hW3
      go_wp2_with fail
      rw [HW3.out]
      have hKD : W3.heap[D]? = some (.deferred (some [])) := by
        have h1 := (Array.getElem?_eq_some_iff.1 HK.out.2).1
        have hap := HAP.out
        have hd := HK.out.1
        rw [HR.out.2.block D h1 (by omega)]; exact HK.out.2
      have hst := shut_still (B := 0) (.deferred none) hKD rfl (Nat.zero_le _)
      obtain ⟨⟨e0, e1, e2⟩, _⟩ := cells3 (hst.blk HR.out.1)
      refine ⟨by simp, .inl ⟨_, _, rfl, run_takeDeferred hKD, ?_⟩⟩
      refine ⟨.agg #[.int .i64 0, .int .i64 0, .slice (some ⟨g, 0, none⟩) (0) (0)], ?_, ?_⟩
      · simp [results, Try.results27, go_sem, e0, e1, e2]
      · have hap := HAP.out
        have hb : Below w.heap.size w W3 := H.out.below.trans (HR.out.2.below H.out.below.size fun k e => by rw [e]; omega)
        have hw := (H.out.row.fr HR.out.2 (by omega)).congr (m' := idm) fun i hi k _ => by unfold oneM idm; simp [hi]
        refine ⟨some ⟨g, 0, none⟩, 0, rfl, Nat.le_refl _, ?_, ?_⟩
        · exact Nw.of_own (Own.down (Own.fr hw (put_fr (k := D) _) (fun g' e1 e2 => by injection e1 with e1; have := congrArg Addr.block e1; dsimp only at this; have := HK.out.1; omega)) (by omega))
        · exact hb.trans ((put_fr (k := D) _).below hb.size fun k e => by rw [e]; have := HK.out.1; omega)
  · have h1 : ¬ n < 0 := by omega
    go_wp2_with fail
    rw [HW1.out, HG0.out]
    refine (none_any w1 0 0 (by decide)).mono ?_
    rintro e w2 ⟨g, rfl, ho, hb⟩
    have H2 := Lib.hid (show Below w.heap.size w w2 ∧ Blk w2 g0 27 #[.int .i64 0, .int .i64 0, .slice none 0 0] ∧ Wm w2 w1.heap.size g (0) 0 0 (fun _ _ => 0) ∧ g0 + 1 ≤ w2.heap.size from ⟨next H1.out.1 hb, H1.out.2.1.keep hb, ho, by rw [← H1.out.2.2]; exact hb.size⟩)
    clear ho hb
    go_wp2_with fail
    obtain ⟨w3, gm, h3, hw3, hgm⟩ := boxed w2 (mcells 0 0 (some ⟨g, 0, none⟩) (0) (0))
    have HW3 := Lib.hid (show w2.alloc (.cells #[.int .i64 0, .int .i64 0, .slice (some ⟨g, 0, none⟩) (0) (0)] 27) = w3 from hw3)
    have H3 := Lib.hid h3
    rw [HW3.out, hgm]
    have HGM := Lib.hid hgm
    clear hw3 hgm h3
    refine (rows_any w3 _ _ _).mono ?_
    rintro e w4' ⟨rfl, rfl⟩
    obtain ⟨w4, bm, h4, hw4, hbm⟩ := boxed w3 (mcells 0 0 (some ⟨g, 0, none⟩) (0) (0))
    have HW4 := Lib.hid (show w3.alloc (.cells #[.int .i64 0, .int .i64 0, .slice (some ⟨g, 0, none⟩) (0) (0)] 27) = w4 from hw4)
    have H4 := Lib.hid h4
    rw [HW4.out, hbm]
    have HBM := Lib.hid hbm
    clear hw4 hbm h4
    go_wp2_with fail
    have hap : g0 + 1 = w1.heap.size ∧ w1.heap.size ≤ g ∧ g < gm ∧ bm = gm + 1 ∧ w4.heap.size = bm + 1 ∧ w.heap.size = g0 := by
      have h1 := H2.out.2.2.1.form
      have h2 := HGM.out; have h3 := HBM.out; have h4 := H3.out.2.2; have h5 := H4.out.2.2; have h6 := H1.out.2.2; have h7 := HG0.out
      omega
    have HAP := Lib.hid hap
    have HI0 := Lib.hid (show OneI w g0 gm w1.heap.size g 0 0 w4 from
      ⟨next (next H2.out.1 H3.out.1) H4.out.1, (H2.out.2.1.keep H3.out.1).keep H4.out.1, H3.out.2.1.keep H4.out.1, ((H2.out.2.2.1.keep H3.out.1).keep H4.out.1).congr fun i _ k _ => by unfold oneM; rw [if_neg (by omega)]⟩)
    clear hap
    refine (wpIn_wide (n := 5)).1 ?_
    refine wpIn_rows bm 0 0 (some ⟨g, 0, none⟩) (0) (0) rfl H4.out.2.1 (by omega) rfl (by decide) (Nat.le_refl _) (fun k => k = g) (by have := HAP.out; omega)
      (OneI w g0 gm w1.heap.size g 0)
      ?hI HI0.out ?hround ?hdone
    case hI =>
      rintro i W W' ⟨h1, h2, h3, h4⟩ hf
      have hap := HAP.out
      exact ⟨h1.trans (hf.below h1.size fun k e => by rw [e]; omega), h2.fr hf (by omega), h3.fr hf (by omega), h4.fr hf (by omega)⟩
    case hround =>
      intro l i W hi hlt
      omega
    case hdone =>
      intro D W hD hi hK
      have H := Lib.hid hi
      have HK := Lib.hid (And.intro hD hK)
      obtain ⟨⟨c0, c1, c2⟩, _⟩ := cells3 hi.var
      obtain ⟨⟨d0, d1, d2⟩, f0, f1, f2⟩ := cells3 hi.res
      obtain ⟨W3, hW3⟩ : ∃ x : World, ((W.setCell ⟨g0, 0, none⟩ (.int .i64 0)).setCell ⟨g0, 1, none⟩ (.int .i64 0)).setCell ⟨g0, 2, none⟩ (.slice (some ⟨g, 0, none⟩) (0) (0)) = x := ⟨_, rfl⟩
      have h3 := set3 hi.res (.int .i64 0) (.int .i64 0) (.slice (some ⟨g, 0, none⟩) (0) (0))
      rw [hW3] at h3
      have HW3 := Lib.hid hW3
      have HR := Lib.hid h3
      clear hi hK hD h3 hW3
      go_wp2_with fail
      rw [HW3.out]
      have hKD : W3.heap[D]? = some (.deferred (some [])) := by
        have h1 := (Array.getElem?_eq_some_iff.1 HK.out.2).1
        have hap := HAP.out
        have hd := HK.out.1
        rw [HR.out.2.block D h1 (by omega)]; exact HK.out.2
      have hst := shut_still (B := 0) (.deferred none) hKD rfl (Nat.zero_le _)
      obtain ⟨⟨e0, e1, e2⟩, _⟩ := cells3 (hst.blk HR.out.1)
      refine ⟨by simp, .inl ⟨_, _, rfl, run_takeDeferred hKD, ?_⟩⟩
      refine ⟨.agg #[.int .i64 0, .int .i64 0, .slice (some ⟨g, 0, none⟩) (0) (0)], ?_, ?_⟩
      · simp [results, Try.results27, go_sem, e0, e1, e2]
      · have hap := HAP.out
        have hb : Below w.heap.size w W3 := H.out.below.trans (HR.out.2.below H.out.below.size fun k e => by rw [e]; omega)
        have hw := (H.out.row.fr HR.out.2 (by omega)).congr (m' := idm) fun i hi k _ => by unfold oneM idm; simp [hi]
        refine ⟨some ⟨g, 0, none⟩, 0, rfl, Nat.le_refl _, ?_, ?_⟩
        · exact Nw.of_own (Own.down (Own.fr hw (put_fr (k := D) _) (fun g' e1 e2 => by injection e1 with e1; have := congrArg Addr.block e1; dsimp only at this; have := HK.out.1; omega)) (by omega))
        · exact hb.trans ((put_fr (k := D) _).below hb.size fun k e => by rw [e]; have := HK.out.1; omega)
end Go.Proofs.Ythdapoipfnnaeaa.MxW
