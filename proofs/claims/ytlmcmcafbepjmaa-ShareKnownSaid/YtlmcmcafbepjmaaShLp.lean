/- The law SharePut, walked. -/
import Derived.Test.YtlmcmcafbepjmaaShWk
namespace Go.Proofs.Ytlmcmcafbepjmaa.ShW
open Go.RowKit Go.Shelf Mem Fds Bv Rng
set_option linter.unusedVariables false

/-- What Put tells: the code and the bytes. -/
def putR (s : Sh) : Int × List UInt8 := if s.may = true then (0, s.put) else (2, [])
theorem putR_of {w w' : World} {s : Sh} {e : Ending} (h : PutS w s e w') : ∃ A c, e = .returned (.tuple #[.slice A (putR s).2.length c, .int .i64 (putR s).1]) ∧ Bytes w' w'.heap.size A (putR s).2 ∧ Below w.heap.size w w' := by
  obtain ⟨h1, h2, hb⟩ := h
  unfold putR
  by_cases hm : s.may = true
  · rw [if_pos hm]
    obtain ⟨A, c, e, ho⟩ := h1 hm
    exact ⟨A, c, e, ho.bytes, hb⟩
  · rw [if_neg hm]
    exact ⟨none, 0, h2 (by simpa using hm), Bytes.nil, hb⟩
theorem cells4 {w : World} {b : Nat} {T : TypeId} {v0 v1 v2 v3 : Value} (h : Blk w b T #[v0, v1, v2, v3]) : w.cell? ⟨b, 0, none⟩ = some v0 ∧ w.cell? ⟨b, 1, none⟩ = some v1 ∧ w.cell? ⟨b, 2, none⟩ = some v2 ∧ w.cell? ⟨b, 3, none⟩ = some v3 := ⟨h.cell 0, h.cell 1, h.cell 2, h.cell 3⟩
set_option maxRecDepth 100000 in
set_option maxHeartbeats 8000000 in
theorem putLaw_any (w : World) (x : Sm) (hx : x.good w) : Calls Try.prog 3 #[.agg x.cells] w fun e w' => e = .returned (.bool true) ∧ Below w.heap.size w w' := by
  obtain ⟨s, A, c, B, d⟩ := x
  obtain ⟨hA, hB, _, _, hv, hnd⟩ := hx
  obtain ⟨n, hn⟩ : ∃ n, s.key.length = n := ⟨_, rfl⟩
  obtain ⟨m, hm⟩ : ∃ m, s.row.length = m := ⟨_, rfl⟩
  obtain ⟨v, hvv⟩ : ∃ v, s.ver = v := ⟨_, rfl⟩
  obtain ⟨nd, hdd⟩ : ∃ nd, s.node = nd := ⟨_, rfl⟩
  unfold Sm.cells
  show Calls _ _ #[.agg #[.slice A s.key.length c, .int .i64 s.ver, .int .i64 s.node, .slice B s.row.length d]] w _
  rw [hn, hm, hvv, hdd]
  obtain ⟨w1, hw1⟩ : ∃ x : World, x = w.alloc (.cells #[.slice A n c, .int .i64 v, .int .i64 nd, .slice B m d] 24) := ⟨_, rfl⟩
  have hb1 : Below w.heap.size w w1 := by rw [hw1]; exact nextA (Mem.start w) _
  have hbk : Blk w1 w.heap.size 24 #[.slice A n c, .int .i64 v, .int .i64 nd, .slice B m d] := by rw [hw1]; exact Blk.new w _ _
  have HF := Lib.hid (few_any w1 v nd A B n c m d)
  have HS := Lib.hid (And.intro hn (And.intro hm (And.intro hvv hdd)))
  have H1 := Lib.hid (And.intro hb1 (And.intro hbk (And.intro (Bytes.up (hA.below hb1) hb1.size) (Bytes.up (hB.below hb1) hb1.size))))
  have HV := Lib.hid hv
  rw [hw1] at HF
  have HW1 := Lib.hid hw1.symm
  clear hw1 hb1 hbk hA hB hv hnd hn hm hvv hdd
  by_cases hfew : n ≤ 100 ∧ m ≤ 400
  · rw [decide_eq_true hfew] at HF
    have HN := Lib.hid hfew
    clear hfew
    go_enter Try.func3, Try.ntmps3
    go_wp2_with fail
    refine HF.out.mono ?_
    rintro e w2 ⟨rfl, hb⟩
    rw [HW1.out] at hb
    obtain ⟨bx, hbx⟩ : ∃ bx, w.heap.size = bx := ⟨_, rfl⟩
    have hB := H1.out.2.1.keep hb
    obtain ⟨c0, c1, c2, c3⟩ := cells4 hB
    have hk1 := convB ((H1.out.2.2.1).below hb) n c HS.out.1.symm
    have H2 := Lib.hid (And.intro (next H1.out.1 hb) (And.intro hB (And.intro ((H1.out.2.2.1.below hb).up hb.size) ((H1.out.2.2.2.below hb).up hb.size))))
    clear hb hB H1 HW1
    rw [hbx] at c0 c1 c2 c3
    have HBX := Lib.hid hbx
    rw [hbx]
    go_wp2_with first
      | ((with_reducible show wpList _ _ _ ((⟨some 15, _, _, _, _, _⟩ : Oper) :: _) _ _); refine wpList_bytesOf _ (by rfl) 9 22 _ rfl 5 Try.underlying9 Try.underlying22 Try.underlying5 s.key rfl ?_; intro ck w3 hck hr3 hb3 hs3; (have h0 := cells4 (H2.out.2.1.keep hb3)); rw [HBX.out] at h0; (obtain ⟨d0, d1, d2, d3⟩ := h0); (have hk2 := convB (H2.out.2.2.2.below hb3) m d HS.out.2.1.symm); rw [HS.out.1])
      | ((with_reducible show wpList _ _ _ ((⟨some 23, _, _, _, _, _⟩ : Oper) :: _) _ _); refine wpList_bytesOf _ (by rfl) 9 22 _ rfl 5 Try.underlying9 Try.underlying22 Try.underlying5 s.row rfl ?_; intro cd w4 hcd hr4 hb4 hs4; rw [HS.out.2.1])
    have hk3 := hr3.cells
    have hk4 := hr4.cells
    have hpb := H2.out
    obtain ⟨g2, hg2⟩ : ∃ g2, w2.heap.size = g2 := ⟨_, rfl⟩
    rw [hs3] at hk4 hs4
    rw [hg2] at hk3 hk4 hs4 ⊢
    obtain ⟨w5, hw5⟩ : ∃ x : World, w4.alloc (.cells #[.slice (some ⟨g2, 0, none⟩) n ck, .int .i64 v, .int .i64 nd, .slice (some ⟨g2 + 1, 0, none⟩) m cd] 24) = x := ⟨_, rfl⟩
    have h45 : Below w4.heap.size w4 w5 := by rw [← hw5]; exact nextA (Mem.start w4) _
    have hown : Blk w5 (g2 + 1 + 1) 24 #[.slice (some ⟨g2, 0, none⟩) n ck, .int .i64 v, .int .i64 nd, .slice (some ⟨g2 + 1, 0, none⟩) m cd] := by rw [← hw5, ← hs4]; exact Blk.new w4 _ _
    rw [hw5]
    have h25 : Below w2.heap.size w2 w5 := next (next hb3 hb4) h45
    have H5 := Lib.hid (And.intro (next hpb.1 h25) (And.intro (hpb.2.1.keep h25) (And.intro hown (And.intro ((hpb.2.2.1.below h25).up h25.size) ((hpb.2.2.2.below h25).up h25.size)))))
    have HO5 := Lib.hid (show Bytes w5 w5.heap.size (some ⟨g2, 0, none⟩) s.key ∧ Bytes w5 w5.heap.size (some ⟨g2 + 1, 0, none⟩) s.row from ⟨(Bytes.below hk3 (next hb4 h45)).up (next hb4 h45).size, (Bytes.below hk4 h45).up h45.size⟩)
    clear hk3 hk4 hpb hg2 hs3 hs4 hw5 h45 hown h25 hb3 hb4 hr3 hr4 hck hcd hk1 hk2 c0 c1 c2 c3 d0 d1 d2 d3 H2
    have hp := put_any w5 s HV.out.2 (some ⟨g2, 0, none⟩) (some ⟨g2 + 1, 0, none⟩) n ck m cd HS.out.1 HS.out.2.1 HO5.out.1 HO5.out.2
    rw [HS.out.2.2.1, HS.out.2.2.2] at hp
    refine hp.mono ?_
    clear hp
    rintro e w6 hp
    obtain ⟨A1, c1, rfl, hA1, hb⟩ := putR_of hp
    clear hp
    obtain ⟨z, hz⟩ : ∃ z, (putR s).1 = z := ⟨_, rfl⟩
    obtain ⟨l, hl⟩ : ∃ l, (putR s).2 = l := ⟨_, rfl⟩
    obtain ⟨k, hk⟩ : ∃ k, l.length = k := ⟨_, rfl⟩
    rw [hz, hl, hk]
    rw [hl] at hA1
    have HZ := Lib.hid (And.intro hz (And.intro hl hk))
    have H6 := Lib.hid (And.intro (next H5.out.1 hb) (And.intro (H5.out.2.1.keep hb) (And.intro (H5.out.2.2.1.keep hb) (And.intro ((H5.out.2.2.2.1.below hb).up hb.size) ((H5.out.2.2.2.2.below hb).up hb.size)))))
    have HO6 := Lib.hid (And.intro ((HO5.out.1.below hb).up hb.size) ((HO5.out.2.below hb).up hb.size))
    have HA1 := Lib.hid hA1
    have h0 := cells4 H6.out.2.1
    rw [HBX.out] at h0
    obtain ⟨x0, x1, x2, x3⟩ := h0
    clear hb H5 HO5 hz hl hk hA1
    go_wp2_with fail
    refine (plain_any w6 v nd A B n c m d).mono ?_
    rintro e w7 ⟨rfl, hb⟩
    have H7 := Lib.hid (And.intro (next H6.out.1 hb) (And.intro (H6.out.2.1.keep hb) (And.intro (H6.out.2.2.1.keep hb) (And.intro ((H6.out.2.2.2.1.below hb).up hb.size) ((H6.out.2.2.2.2.below hb).up hb.size)))))
    have HO7 := Lib.hid (And.intro ((HO6.out.1.below hb).up hb.size) ((HO6.out.2.below hb).up hb.size))
    have HA7 := Lib.hid ((HA1.out.below hb).up hb.size)
    clear hb x0 x1 x2 x3 H6 HO6 HA1
    go_wp2_with fail
    have hp := rput_any w7 s HV.out.2 A B n c m d HS.out.1 HS.out.2.1 H7.out.2.2.2.1 H7.out.2.2.2.2
    rw [HS.out.2.2.1, HS.out.2.2.2] at hp
    refine hp.mono ?_
    clear hp
    rintro e w8 hp
    obtain ⟨B1, c2, rfl, hB1, hb⟩ := putR_of hp
    clear hp
    rw [HZ.out.1, HZ.out.2.1, HZ.out.2.2]
    rw [HZ.out.2.1] at hB1
    have H8 := Lib.hid (And.intro (next H7.out.1 hb) (And.intro (H7.out.2.1.keep hb) (And.intro (H7.out.2.2.1.keep hb) (And.intro ((H7.out.2.2.2.1.below hb).up hb.size) ((H7.out.2.2.2.2.below hb).up hb.size)))))
    have HO8 := Lib.hid (And.intro ((HO7.out.1.below hb).up hb.size) ((HO7.out.2.below hb).up hb.size))
    have HA8 := Lib.hid (And.intro ((HA7.out.below hb).up hb.size) hB1)
    clear hb H7 HO7 HA7 hB1
    have KC := Lib.hid (show ∀ W, Below w8.heap.size w8 W → (W.cell? ⟨bx, 0, none⟩ = some (.slice A n c) ∧ W.cell? ⟨bx, 1, none⟩ = some (.int .i64 v) ∧ W.cell? ⟨bx, 2, none⟩ = some (.int .i64 nd) ∧ W.cell? ⟨bx, 3, none⟩ = some (.slice B m d)) ∧ (W.cell? ⟨g2 + 1 + 1, 0, none⟩ = some (.slice (some ⟨g2, 0, none⟩) n ck) ∧ W.cell? ⟨g2 + 1 + 1, 1, none⟩ = some (.int .i64 v) ∧ W.cell? ⟨g2 + 1 + 1, 2, none⟩ = some (.int .i64 nd) ∧ W.cell? ⟨g2 + 1 + 1, 3, none⟩ = some (.slice (some ⟨g2 + 1, 0, none⟩) m cd)) from fun W hW => ⟨by have := cells4 (H8.out.2.1.keep hW); rwa [HBX.out] at this, cells4 (H8.out.2.2.1.keep hW)⟩)
    have K1 := Lib.hid (show ∀ W, Below w8.heap.size w8 W → Calls Try.prog 13 #[.slice A1 k c1, .slice B1 k c2] W fun e w' => e = .returned (.bool true) ∧ Below w8.heap.size w8 w' from fun W hW => (sameBytes_any W A1 B1 l l k c1 k c2 W.heap.size W.heap.size HZ.out.2.2 HZ.out.2.2 ((HA8.out.1.below hW).up hW.size) ((HA8.out.2.below hW).up hW.size)).mono (by rintro e w' ⟨rfl, rfl⟩; exact ⟨by simp, hW⟩))
    obtain ⟨y, hy⟩ : ∃ y, s.may = y := ⟨_, rfl⟩
    have K2 := Lib.hid (show ∀ W, Below w8.heap.size w8 W → Calls Try.prog 14 #[.agg #[.slice A n c, .int .i64 v, .int .i64 nd, .slice B m d]] W fun e w' => e = .returned (.bool y) ∧ Below w8.heap.size w8 w' from fun W hW => by
      have := may_any W s A B n c m d HS.out.1 HS.out.2.1
      rw [HS.out.2.2.1, HS.out.2.2.2, hy] at this
      exact this.mono (by rintro e w' ⟨rfl, hb⟩; exact ⟨rfl, next hW hb⟩))
    have K3 := Lib.hid (show ∀ W, Below w8.heap.size w8 W → Calls Try.prog 15 #[.agg #[.slice A n c, .int .i64 v, .int .i64 nd, .slice B m d]] W fun e w' => e = .returned (.bool y) ∧ Below w8.heap.size w8 w' from fun W hW => by
      have := rmay_any W s A B n c m d HS.out.1 HS.out.2.1
      rw [HS.out.2.2.1, HS.out.2.2.2, hy] at this
      exact this.mono (by rintro e w' ⟨rfl, hb⟩; exact ⟨rfl, next hW hb⟩))
    have K4 := Lib.hid (show ∀ W, Below w8.heap.size w8 W → Calls Try.prog 12 #[.agg #[.slice A n c, .int .i64 v, .int .i64 nd, .slice B m d]] W fun e w' => e = .returned (.agg #[.slice A n c, .int .i64 v, .int .i64 nd, .slice B m d]) ∧ Below w8.heap.size w8 w' from fun W hW => (plain_any W v nd A B n c m d).mono (by rintro e w' ⟨rfl, hb⟩; exact ⟨rfl, next hW hb⟩))
    have K5 := Lib.hid (show ∀ W, Below w8.heap.size w8 W → Calls Try.prog 12 #[.agg #[.slice (some ⟨g2, 0, none⟩) n ck, .int .i64 v, .int .i64 nd, .slice (some ⟨g2 + 1, 0, none⟩) m cd]] W fun e w' => e = .returned (.agg #[.slice (some ⟨g2, 0, none⟩) n ck, .int .i64 v, .int .i64 nd, .slice (some ⟨g2 + 1, 0, none⟩) m cd]) ∧ Below w8.heap.size w8 w' from fun W hW => (plain_any W v nd _ _ n ck m cd).mono (by rintro e w' ⟨rfl, hb⟩; exact ⟨rfl, next hW hb⟩))
    have K6 := Lib.hid (show ∀ W, Below w8.heap.size w8 W → Calls Try.prog 16 #[.agg #[.slice (some ⟨g2, 0, none⟩) n ck, .int .i64 v, .int .i64 nd, .slice (some ⟨g2 + 1, 0, none⟩) m cd], .agg #[.slice A n c, .int .i64 v, .int .i64 nd, .slice B m d]] W fun e w' => e = .returned (.bool true) ∧ Below w8.heap.size w8 w' from fun W hW => by
      have := rsame_any W s s (some ⟨g2, 0, none⟩) (some ⟨g2 + 1, 0, none⟩) A B n ck m cd n c m d HS.out.1 HS.out.2.1 HS.out.1 HS.out.2.1 ((HO8.out.1.below hW).up hW.size) ((HO8.out.2.below hW).up hW.size) ((H8.out.2.2.2.1.below hW).up hW.size) ((H8.out.2.2.2.2.below hW).up hW.size)
      rw [HS.out.2.2.1, HS.out.2.2.2, same_self] at this
      exact this.mono (by rintro e w' ⟨rfl, hb⟩; exact ⟨rfl, next hW hb⟩))
    have K7 := Lib.hid (show ∀ W, Below w8.heap.size w8 W → Calls Try.prog 9 #[] W fun e w' => e = .returned (.bool true) ∧ Below w8.heap.size w8 w' from fun W hW => (works_any W).mono (by rintro e w' ⟨rfl, hb⟩; exact ⟨rfl, next hW hb⟩))
    have hz0 : (z == z) = true := by simp
    have hy0 : (y == y) = true := by simp
    have H9 : Below w8.heap.size w8 w8.drew := nextN (Mem.start w8) 1
    clear hy
    go_wp2_with fail
    go_region_held3 (fun W => Below w8.heap.size w8 W ∧ (W.cell? ⟨bx, 0, none⟩ = some (.slice A n c) ∧ W.cell? ⟨bx, 1, none⟩ = some (.int .i64 v) ∧ W.cell? ⟨bx, 2, none⟩ = some (.int .i64 nd) ∧ W.cell? ⟨bx, 3, none⟩ = some (.slice B m d)) ∧ (W.cell? ⟨g2 + 1 + 1, 0, none⟩ = some (.slice (some ⟨g2, 0, none⟩) n ck) ∧ W.cell? ⟨g2 + 1 + 1, 1, none⟩ = some (.int .i64 v) ∧ W.cell? ⟨g2 + 1 + 1, 2, none⟩ = some (.int .i64 nd) ∧ W.cell? ⟨g2 + 1 + 1, 3, none⟩ = some (.slice (some ⟨g2 + 1, 0, none⟩) m cd)))
      (first | exact ⟨by assumption, KC.out _ (by assumption)⟩ | go_keep)
      (first
        | ((with_reducible refine (K1.out _ (by assumption)).mono ?_); rintro e w9 ⟨rfl, h⟩)
        | ((with_reducible refine (K2.out _ (by assumption)).mono ?_); rintro e w9 ⟨rfl, h⟩)
        | ((with_reducible refine (K3.out _ (by assumption)).mono ?_); rintro e w9 ⟨rfl, h⟩)
        | ((with_reducible refine (K4.out _ (by assumption)).mono ?_); rintro e w9 ⟨rfl, h⟩)
        | ((with_reducible refine (K5.out _ (by assumption)).mono ?_); rintro e w9 ⟨rfl, h⟩)
        | ((with_reducible refine (K6.out _ (by assumption)).mono ?_); rintro e w9 ⟨rfl, h⟩)
        | ((with_reducible refine (K7.out _ (by assumption)).mono ?_); rintro e w9 ⟨rfl, h⟩))
    go_wp2_with fail
    go_ret
    exact ⟨rfl, next H8.out.1 (by assumption)⟩
  · rw [decide_eq_false hfew] at HF
    clear hfew
    go_enter Try.func3, Try.ntmps3
    go_wp2_with fail
    refine HF.out.mono ?_
    rintro e w2 ⟨rfl, hb⟩
    rw [HW1.out] at hb
    have H2 := Lib.hid (next H1.out.1 hb)
    clear hb
    go_wp2_with fail
    refine (works_any _).mono ?_
    rintro e w3 ⟨rfl, hb⟩
    have H3 := Lib.hid (next H2.out hb)
    clear hb
    go_wp2_with fail
    go_ret
    exact ⟨rfl, H3.out⟩
end Go.Proofs.Ytlmcmcafbepjmaa.ShW
