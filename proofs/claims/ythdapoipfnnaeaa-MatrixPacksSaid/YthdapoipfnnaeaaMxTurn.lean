/- Turned. -/
import Derived.Test.YthdapoipfnnaeaaMxMore
namespace Go.Proofs.Ythdapoipfnnaeaa.MxW
open Go.RowKit Go.Shelf Mem Gf FdW Mx Rng
set_option linter.unusedVariables false
attribute [local go_sem] Oper.semAt_some wide_fn

/-- A new matrix, and OK. -/
def NewT (w : World) (r c : Nat) (m : M) (e : Ending) (w' : World) : Prop := ∃ A cap, e = .returned (.tuple #[.agg #[.int .i64 (r : Int), .int .i64 (c : Int), .slice A (r * c) cap], .int .i64 0]) ∧ r * c ≤ cap ∧ Nw w.heap.size w' A (flat r c m) ∧ Below w.heap.size w w'
def ErrM (w : World) (code : Int) (e : Ending) (w' : World) : Prop := e = .returned (.tuple #[.agg #[.int .i64 0, .int .i64 0, .slice none 0 0], .int .i64 code]) ∧ Below w.heap.size w w'
def zmx : Array Value := #[.int .i64 0, .int .i64 0, .slice none 0 0]
/-- A row of bytes in memory. -/
theorem row_at {w : World} {B r c i : Nat} {A : Option Addr} {m : M} (h : Bytes w B A (flat r c m)) (hi : i < r) (hc : 0 < c) :
    ∃ ab off, rowA A c i = some ⟨ab, off, none⟩ ∧ ab < B ∧ (∃ o, A = some ⟨ab, o, none⟩ ∧ off = o + i * c) ∧ ∀ k, k < c → w.cell? ⟨ab, off + k, none⟩ = some (.int .u8 ((m i k).toNat : Int)) := by
  have hl : 0 < (flat r c m).length := by rw [flat_len]; have := idx_lt (c := c) hi hc; omega
  obtain ⟨ab, o, e, hb, hcs⟩ := h (by rw [List.length_map]; exact hl)
  refine ⟨ab, o + i * c, by rw [e, rowA_some hc], hb, ⟨o, e, rfl⟩, fun k hk => ?_⟩
  have := hcs (i * c + k) (u8v (m i k)) (by rw [List.getElem?_map, flat_get hi hk]; rfl)
  rw [Nat.add_assoc]; exact this
def trM (m : M) (i j : Nat) : M := fun a b => if b < i ∨ (b = i ∧ a < j) then m b a else 0
/-- While a matrix is turned about. -/
structure TurnI (w : World) (g0 g4 B g r c : Nat) (m : M) (i j : Nat) (W : World) : Prop where
  below : Below w.heap.size w W
  res : Blk W g0 27 zmx
  var : Blk W g4 27 (mcells c r (some ⟨g, 0, none⟩) (c * r) (c * r))
  row : Wm W B g (c * r) c r (trM m i j)
theorem TurnI.fr {w : World} {g0 g4 B g r c : Nat} {m : M} {i j : Nat} {W W' : World} (h : TurnI w g0 g4 B g r c m i j W) {S : Nat → Prop} (hf : Fr S W W') (h0 : ∀ k, S k → w.heap.size ≤ k) (h1 : ¬ S g0) (h2 : ¬ S g4) (h3 : ¬ S g) : TurnI w g0 g4 B g r c m i j W' :=
  ⟨h.below.trans (hf.below h.below.size h0), h.res.fr hf h1, h.var.fr hf h2, h.row.fr hf h3⟩
theorem TurnI.keep {w : World} {g0 g4 B g r c : Nat} {m : M} {i j : Nat} {W W' : World} (h : TurnI w g0 g4 B g r c m i j W) (hb : Below W.heap.size W W') : TurnI w g0 g4 B g r c m i j W' :=
  h.fr (Fr.quiet (S := fun _ => False) hb) (fun _ h => h.elim) (fun h => h) (fun h => h) (fun h => h)
theorem TurnI.congr {w : World} {g0 g4 B g r c : Nat} {m : M} {i j i' j' : Nat} {W : World} (h : TurnI w g0 g4 B g r c m i j W) (e : ∀ a, a < c → ∀ b, b < r → trM m i j a b = trM m i' j' a b) : TurnI w g0 g4 B g r c m i' j' W := ⟨h.below, h.res, h.var, h.row.congr e⟩
set_option maxRecDepth 100000 in
set_option maxHeartbeats 4000000 in
theorem turned_ok (w : World) (r c : Nat) (A : Option Addr) (n cap : Nat) (m : M) (hn : n = r * c) (hrt : rightB r c n = true) (hcap : n ≤ cap) (hn9 : (n : Int) ≤ 1000000000) (hA : Bytes w w.heap.size A (flat r c m)) :
    Calls Try.prog 34 #[.agg #[.int .i64 (r : Int), .int .i64 (c : Int), .slice A n cap]] w (NewT w c r fun a b => m b a) := by
  have hrc : (r : Int) ≤ 1000000 ∧ (c : Int) ≤ 1000000 := by have h := of_decide_eq_true hrt; omega
  have hq : ((c * r : Nat) : Int) ≤ 1000000000 := by rw [Nat.mul_comm]; omega
  refine of_wide ?_
  refine callsIn_of_wp_marks Try.func34 rfl trivial ?_ rfl
  refine wpIn_wide.2 ?_
  simp only [Try.ntmps34, List.size_toArray, List.length_cons, List.length_nil, Nat.reduceAdd, Nat.reduceSub, Array.replicate_succ, Array.replicate_zero, List.push_toArray, List.append_toArray, List.nil_append, List.cons_append]
  obtain ⟨wa, ga, ha, hwa, hga⟩ := boxed w (mcells r c A n cap)
  obtain ⟨w1, g0, h1, hw1, hg0⟩ := boxed wa zmx
  have HWA := Lib.hid (show w.alloc (.cells #[.int .i64 (r : Int), .int .i64 (c : Int), .slice A n cap] 27) = wa from hwa)
  have HW1 := Lib.hid (show wa.alloc (.cells #[.int .i64 0, .int .i64 0, .slice none 0 0] 27) = w1 from hw1)
  have H1 := Lib.hid (show Below w.heap.size w w1 ∧ Blk w1 ga 27 (mcells r c A n cap) ∧ Blk w1 g0 27 zmx ∧ w.heap.size = ga ∧ g0 = ga + 1 ∧ w1.heap.size = ga + 2 from
    ⟨next ha.1 h1.1, ha.2.1.keep h1.1, h1.2.1, hga, by have := ha.2.2; omega, by have := ha.2.2; have := h1.2.2; omega⟩)
  have HG := Lib.hid (And.intro hga hg0)
  have HL := Lib.hid (And.intro hn (And.intro hcap (And.intro hn9 (And.intro hrc.1 (And.intro hrc.2 hq)))))
  have HA := Lib.hid hA
  have HRT := Lib.hid hrt
  clear ha hwa hga h1 hw1 hg0 hn hcap hn9 hrc hA hrt hq
  go_wp2_with fail
  rw [HWA.out, HW1.out, HG.out.1, show ga + 1 = g0 from H1.out.2.2.2.2.1.symm]
  refine (right_any w1 _ _ A n cap).mono ?_
  rintro e w2 ⟨rfl, hb⟩
  rw [HRT.out]
  have H2 := Lib.hid (And.intro (next H1.out.1 hb) (And.intro (H1.out.2.1.keep hb) (And.intro (H1.out.2.2.1.keep hb) hb.size)))
  obtain ⟨⟨c0, c1, c2⟩, _⟩ := cells3 H2.out.2.1
  clear hb
  go_wp2_with fail
  refine (none_any w2 c r HL.out.2.2.2.2.2).mono ?_
  rintro e w3 ⟨g, rfl, ho, hb⟩
  have H3 := Lib.hid (And.intro (next H2.out.1 hb) (And.intro (H2.out.2.1.keep hb) (And.intro (H2.out.2.2.1.keep hb) (show Wm w3 w2.heap.size g (c * r) c r (fun _ _ => 0) from ho))))
  obtain ⟨w4, g4, h4, hw4, hg4⟩ := boxed w3 (mcells c r (some ⟨g, 0, none⟩) (c * r) (c * r))
  have HW4 := Lib.hid (show w3.alloc (.cells #[.int .i64 (c : Int), .int .i64 (r : Int), .slice (some ⟨g, 0, none⟩) (c * r) (c * r)] 27) = w4 from hw4)
  obtain ⟨⟨d0, d1, d2⟩, _⟩ := cells3 (H3.out.2.1.keep h4.1)
  rw [← HW4.out] at d0 d1 d2
  have H4 := Lib.hid h4
  have HG4 := Lib.hid hg4
  clear ho hb h4 hw4 hg4 c0 c1 c2
  go_wp2_with fail
  rw [HW4.out, HG4.out]
  refine (rows_any w4 _ _ _).mono ?_
  rintro e w5' ⟨rfl, rfl⟩
  obtain ⟨w5, bm, h5, hw5, hbm⟩ := boxed w4 (mcells r c A n cap)
  have HW5 := Lib.hid (show w4.alloc (.cells #[.int .i64 (r : Int), .int .i64 (c : Int), .slice A n cap] 27) = w5 from hw5)
  rw [HW5.out, hbm]
  have hap : w.heap.size = ga ∧ g0 = ga + 1 ∧ ga + 2 ≤ w2.heap.size ∧ w2.heap.size ≤ g ∧ g < g4 ∧ bm = g4 + 1 ∧ w5.heap.size = bm + 1 := by
    have k1 := H1.out.2.2.2; have k2 := H2.out.2.2.2; have k3 := H3.out.2.2.2.form; have k4 := HG4.out; have k5 := H4.out.2.2; have k6 := h5.2.2
    omega
  have HAP := Lib.hid hap
  have HI0 := Lib.hid (show TurnI w g0 g4 w2.heap.size g r c m 0 0 w5 from ⟨next (next H3.out.1 H4.out.1) h5.1, (H3.out.2.2.1.keep H4.out.1).keep h5.1, H4.out.2.1.keep h5.1, ((H3.out.2.2.2.keep H4.out.1).keep h5.1).congr fun a _ b _ => by unfold trM; rw [if_neg (by omega)]⟩)
  have H5 := Lib.hid h5
  clear hw5 h5 hap d0 d1 d2 hbm
  go_wp2_with fail
  refine (wpIn_wide (n := 5)).1 ?_
  refine wpIn_rows bm r c A n cap rfl H5.out.2.1 HL.out.2.2.2.1 HL.out.1 HL.out.2.2.1 HL.out.2.1 (fun k => k = g) (by have := HAP.out; omega)
    (fun i W => TurnI w g0 g4 w2.heap.size g r c m i 0 W) ?hI HI0.out ?hround ?hdone
  case hI =>
    intro i W W' h hf
    have hap := HAP.out
    exact h.fr hf (fun k e => by omega) (by omega) (by omega) (by omega)
  case hround =>
    intro l i W hi hlt
    have HLT := Lib.hid hlt
    obtain ⟨X, hX⟩ : ∃ X, rowA A c i = X := ⟨_, rfl⟩
    rw [hX]
    have HX := Lib.hid hX
    clear hlt hi hX
    gi_wp2
    refine ⟨trivial, fun W2 hi2 => ?_⟩
    have H := Lib.hid hi2
    clear hi2
    gi_wp2
    gi_loopw [24] (fun x wr => ∃ j : Nat, x = .int .i64 (j : Int) ∧ j ≤ c ∧ TurnI w g0 g4 w2.heap.size g r c m i j wr ∧ Fr (fun k => k = g) W2 wr) (fun x _ => c - (intOf x).toNat)
    case atStart => exact ⟨0, rfl, Nat.zero_le _, H.out, Fr.refl _ _⟩
    case round =>
      obtain ⟨j, rfl, hj, h1, h2⟩ := hrel
      by_cases hjc : j < c
      · obtain ⟨ab, off, hx, hab, _, hcs⟩ := row_at (HA.out.below h1.below) HLT.out (show 0 < c by omega)
        rw [HX.out] at hx
        subst hx
        have hji : (j : Int) < (c : Int) := by omega
        have hj0 : (0 : Int) ≤ (j : Int) := by omega
        have hj9 : (j : Int) ≤ 1000000 := by have := HL.out.2.2.2.2.1; omega
        have hr1 := hcs j hjc
        obtain ⟨⟨d0, d1, d2⟩, _⟩ := cells3 h1.var
        have HJ := Lib.hid (And.intro h1 (And.intro h2 hjc))
        obtain ⟨x, hx⟩ : ∃ x, m i j = x := ⟨_, rfl⟩
        rw [hx] at hr1
        have HXV := Lib.hid hx
        clear h1 h2 hj hjc hcs hx hab
        gi_wp2
        refine (wideR (row_any wr c r j (some ⟨g, 0, none⟩) (c * r) (c * r) HJ.out.2.2 HL.out.2.2.2.2.1 rfl HL.out.2.2.2.2.2 (Nat.le_refl _))).mono ?_
        rintro e w6 ⟨rfl, hb⟩
        rw [show rowA (some ⟨g, 0, none⟩) r j = some ⟨g, j * r, none⟩ from by rw [rowA_some (by have := HLT.out; omega), Nat.zero_add]]
        have h6 := HJ.out.1.keep hb
        obtain ⟨k1, k2⟩ := h6.row.at_ HJ.out.2.2 HLT.out
        obtain ⟨q, hq⟩ : ∃ q, j * r = q := ⟨_, rfl⟩
        rw [hq] at k1 k2 ⊢
        have hir : (i : Int) < (r : Int) := by have := HLT.out; omega
        have hi0 : (0 : Int) ≤ (i : Int) := by omega
        have H6 := Lib.hid (And.intro h6 (And.intro (HJ.out.2.1.trans (Fr.quiet (S := fun k => k = g) hb) fun _ _ h => h) hq))
        clear hb h6 hq d0 d1 d2
        gi_wp2
        go_roundw
        case rel =>
          have hs := H6.out.1.row.set HJ.out.2.2 HLT.out x
          rw [H6.out.2.2] at hs
          have hf := setF (p := g) w6 ⟨g, q + i, none⟩ rfl (.int .u8 (x.toNat : Int))
          have hap := HAP.out
          refine ⟨j + 1, by simp, HJ.out.2.2, ⟨H6.out.1.below.trans (hf.below H6.out.1.below.size fun k e => by rw [e]; omega), H6.out.1.res.fr hf (by omega), H6.out.1.var.fr hf (by omega), hs.congr fun a ha b hb => ?_⟩, H6.out.2.1.trans hf fun _ _ h => h⟩
          have hx := HXV.out
          unfold upd trM
          by_cases e : a = j ∧ b = i
          · obtain ⟨rfl, rfl⟩ := e
            rw [if_pos ⟨rfl, rfl⟩, if_pos (.inr ⟨rfl, by omega⟩), hx]
          · rw [if_neg e]
            by_cases e2 : b < i ∨ b = i ∧ a < j
            · rw [if_pos e2, if_pos (by omega)]
            · rw [if_neg e2, if_neg (by omega)]
        case measure => simp [intOf]; omega
      · obtain rfl : j = c := by omega
        have HJ := Lib.hid (And.intro h1 h2)
        clear h1 h2 hj
        gi_wp2
        have hap := HAP.out
        exact ⟨HJ.out.2, HJ.out.1.congr fun a ha b _ => by
          unfold trM
          by_cases e : b < i ∨ b = i ∧ a < j
          · rw [if_pos e, if_pos (by omega)]
          · rw [if_neg e, if_neg (by omega)]⟩
  case hdone =>
    intro D W hD hi hK
    have H := Lib.hid hi
    have HK := Lib.hid (And.intro hD hK)
    obtain ⟨⟨c0, c1, c2⟩, _⟩ := cells3 hi.var
    obtain ⟨⟨d0, d1, d2⟩, f0, f1, f2⟩ := cells3 hi.res
    obtain ⟨W3, hW3⟩ : ∃ x : World, ((W.setCell ⟨g0, 0, none⟩ (.int .i64 (c : Int))).setCell ⟨g0, 1, none⟩ (.int .i64 (r : Int))).setCell ⟨g0, 2, none⟩ (.slice (some ⟨g, 0, none⟩) (c * r) (c * r)) = x := ⟨_, rfl⟩
    have h3 := set3 hi.res (.int .i64 (c : Int)) (.int .i64 (r : Int)) (.slice (some ⟨g, 0, none⟩) (c * r) (c * r))
    rw [hW3] at h3
    have HW3 := Lib.hid hW3
    have HR := Lib.hid h3
    clear hi hK hD h3 hW3
    go_wp2_with fail
    rw [HW3.out]
    have hap := HAP.out
    have hd := HK.out.1
    have hKD : W3.heap[D]? = some (.deferred (some [])) := by
      have h1 := (Array.getElem?_eq_some_iff.1 HK.out.2).1
      rw [HR.out.2.block D h1 (by omega)]; exact HK.out.2
    have hst := shut_still (B := 0) (.deferred none) hKD rfl (Nat.zero_le _)
    obtain ⟨⟨e0, e1, e2⟩, _⟩ := cells3 (hst.blk HR.out.1)
    refine ⟨by simp, .inl ⟨_, _, rfl, run_takeDeferred hKD, ?_⟩⟩
    refine ⟨.tuple #[.agg #[.int .i64 (c : Int), .int .i64 (r : Int), .slice (some ⟨g, 0, none⟩) (c * r) (c * r)], .int .i64 0], ?_, ?_⟩
    · simp [results, Try.results34, go_sem, e0, e1, e2]
    · have hb : Below w.heap.size w W3 := H.out.below.trans (HR.out.2.below H.out.below.size fun k e => by rw [e]; omega)
      have hw := (H.out.row.fr HR.out.2 (by omega)).congr (m' := fun a b => m b a) fun a _ b hb => by unfold trM; rw [if_pos (.inl hb)]
      refine ⟨some ⟨g, 0, none⟩, c * r, rfl, Nat.le_refl _, ?_, ?_⟩
      · exact Nw.of_own (Own.down (Own.fr hw (put_fr (k := D) _) (fun g' e1 e2 => by injection e1 with e1; have := congrArg Addr.block e1; dsimp only at this; omega)) (by omega))
      · exact hb.trans ((put_fr (k := D) _).below hb.size fun k e => by rw [e]; omega)
set_option maxRecDepth 100000 in
set_option maxHeartbeats 2000000 in
theorem turned_bad (w : World) (R C : Int) (A : Option Addr) (n cap : Nat) (hrt : rightB R C n = false) : Calls Try.prog 34 #[.agg #[.int .i64 R, .int .i64 C, .slice A n cap]] w (ErrM w 50) := by
  refine of_wide ?_
  refine callsIn_of_wp_marks Try.func34 rfl trivial ?_ rfl
  refine wpIn_wide.2 ?_
  simp only [Try.ntmps34, List.size_toArray, List.length_cons, List.length_nil, Nat.reduceAdd, Nat.reduceSub, Array.replicate_succ, Array.replicate_zero, List.push_toArray, List.append_toArray, List.nil_append, List.cons_append]
  obtain ⟨wa, ga, ha, hwa, hga⟩ := boxed w #[.int .i64 R, .int .i64 C, .slice A n cap]
  obtain ⟨w1, g0, h1, hw1, hg0⟩ := boxed wa zmx
  have HWA := Lib.hid hwa
  have HW1 := Lib.hid (show wa.alloc (.cells #[.int .i64 0, .int .i64 0, .slice none 0 0] 27) = w1 from hw1)
  have hg1 : g0 = ga + 1 := by have := ha.2.2; omega
  have H1 := Lib.hid (show Below w.heap.size w w1 ∧ Blk w1 g0 27 zmx ∧ w.heap.size ≤ g0 from ⟨next ha.1 h1.1, h1.2.1, by omega⟩)
  have HG := Lib.hid (And.intro hga hg1.symm)
  have HRT := Lib.hid hrt
  clear ha hwa hga h1 hw1 hg0 hrt hg1
  go_wp2_with fail
  rw [HWA.out, HW1.out, HG.out.1, HG.out.2]
  refine (right_any w1 _ _ A n cap).mono ?_
  rintro e w2 ⟨rfl, hb⟩
  rw [HRT.out]
  have H2 := Lib.hid (And.intro (next H1.out.1 hb) (H1.out.2.1.keep hb))
  obtain ⟨⟨d0, d1, d2⟩, f0, f1, f2⟩ := cells3 H2.out.2
  clear hb
  go_wp2_with fail
  have h3 := set3 H2.out.2 (.int .i64 0) (.int .i64 0) (.slice none 0 0)
  obtain ⟨w3, hw3⟩ : ∃ x : World, ((w2.setCell ⟨g0, 0, none⟩ (.int .i64 0)).setCell ⟨g0, 1, none⟩ (.int .i64 0)).setCell ⟨g0, 2, none⟩ (.slice none 0 0) = x := ⟨_, rfl⟩
  rw [hw3] at h3 ⊢
  obtain ⟨⟨e0, e1, e2⟩, _⟩ := cells3 h3.1
  refine ⟨.tuple #[.agg #[.int .i64 0, .int .i64 0, .slice none 0 0], .int .i64 50], ?_, rfl, ?_⟩
  · simp [results, Try.results34, go_sem, e0, e1, e2]
  · exact H2.out.1.trans (h3.2.below H2.out.1.size fun k e => by rw [e]; exact H1.out.2.2)
end Go.Proofs.Ythdapoipfnnaeaa.MxW
