/- points.first over points.powers: its closure hands over the first n of them. -/
import Derived.Test.YtaeoocpiggebmaaPtPow
import Derived.Test.YtaeoocpiggebmaaRngL
namespace Go.Proofs.Ytaeoocpiggebmaa.PtW
open Go.RowKit Go.Shelf Mem Gf FdW Rng
set_option linter.unusedVariables false
attribute [local go_sem] Oper.semAt_some wide_fn

set_option maxHeartbeats 1000000 in
theorem first_any (w : World) (v : Value) (hv : v.oneCell' = true) (n : Int) :
    Calls Try.prog 23 #[v, .int .i64 n] w fun e w' => e = .returned (.func (.func 32) #[] #[.pointer (some ⟨w.heap.size + 1, 0, none⟩), .pointer (some ⟨w.heap.size, 0, none⟩)]) ∧
      w' = (w.alloc (.cells #[v] 59)).alloc (.cells #[.int .i64 n] 3) := by
  have hmf : ∀ (fn : Fn) (first cap : Array Value) (w : World), (Instr.makeFunc fn first cap).run Try.prog w = .ok (.func fn first cap) w := fun _ _ _ _ => rfl
  go_enter Try.func23, Try.ntmps23
  go_wp2_with fail
  go_ret
  exact ⟨rfl, rfl⟩

/-- The closure of powers, as an iterator. -/
theorem powers_callT (w : World) (p B0 B1 B2 a s N : Nat) (hs : 1 ≤ s) (hN : a + s * N ≤ 1000) (SB : Nat → Prop) (I : List UInt8 → World → Prop) (Ix : Code → List UInt8 → World → Prop)
    (hne : B0 ≠ p ∧ B1 ≠ p ∧ B2 ≠ p) (hSB : ¬ SB B0 ∧ ¬ SB B1 ∧ ¬ SB B2) (hp : p < w.heap.size)
    (h0 : w.cell? ⟨B0, 0, none⟩ = some (.pointer (some ⟨p, 0, none⟩))) (h1 : w.cell? ⟨B1, 0, none⟩ = some (.int .i64 (a : Int))) (h2 : w.cell? ⟨B2, 0, none⟩ = some (.int .i64 (s : Int)))
    (hI : ∀ pre W1, I pre W1 → Fld W1 p ∧ pre.length < N) (hIt : ∀ pre W1 W2, I pre W1 → Fr (fun k => k = p) W1 W2 → Fld W2 p → I pre W2) :
    CallT Try.prog 33 #[.pointer (some ⟨B1, 0, none⟩), .pointer (some ⟨B0, 0, none⟩), .pointer (some ⟨B2, 0, none⟩)] (fun c : UInt8 => #[.int .u8 (c.toNat : Int)]) I Ix (fun pre x _ => x = pl a s pre.length) SB w.heap.size (fun _ => False) (fun _ => True) w := by
  intro J Jx W hsz hb hJI hJx hJt hJxt hY hJ0
  have l0 := World.block_lt_of_cell? _ _ h0
  have l1 := World.block_lt_of_cell? _ _ h1
  have l2 := World.block_lt_of_cell? _ _ h2
  dsimp only at l0 l1 l2
  refine CallsIn.mono (powers1_in p B0 B1 B2 (w.heap.size + 1) a s N hs hN (fun k => SB k ∨ k = w.heap.size + 1) J Jx W hne ⟨fun h => h.elim hSB.1 (by omega), fun h => h.elim hSB.2.1 (by omega), fun h => h.elim hSB.2.2 (by omega)⟩
    ((hb.cell l0).trans h0) ((hb.cell l1).trans h1) ((hb.cell l2).trans h2) (fun pre W1 h => hI _ _ (hJI _ _ h))
    (fun pre W1 W2 h hf hF => hJt _ _ _ _ h hf (by omega) (by omega) (hIt _ _ _ (hJI _ _ h) hf hF)) (fun pre W1 h => ?_) hJ0) ?_
  · exact YieldAt.mono (hY pre _ W1 h rfl) fun e W' h' => h'.imp (fun h' => h') (fun h' => ⟨h'.1, h'.2.1⟩)
  · rintro e W' ⟨hv, pre, hx⟩
    exact ⟨hv, .inr ⟨pre, trivial, hx⟩⟩
set_option maxRecDepth 100000 in
set_option maxHeartbeats 4000000 in
/-- The closure of first over that of powers. -/
theorem first_callT (w : World) (p C0 C1 B0 B1 B2 a s n N : Nat) (hs : 1 ≤ s) (hN : a + s * N ≤ 1000) (hn : n ≤ N) (hn0 : n ≤ 1000) (SB : Nat → Prop) (I : List UInt8 → World → Prop) (Ix : Code → List UInt8 → World → Prop)
    (hne : B0 ≠ p ∧ B1 ≠ p ∧ B2 ≠ p) (hSB : ¬ SB B0 ∧ ¬ SB B1 ∧ ¬ SB B2) (hSD : ∀ k, w.heap.size ≤ k → k < w.heap.size + 6 → ¬ SB k) (hp : p < w.heap.size)
    (hc0 : w.cell? ⟨C0, 0, none⟩ = some (.int .i64 (n : Int))) (hc1 : w.cell? ⟨C1, 0, none⟩ = some (.func (.func 33) #[] #[.pointer (some ⟨B1, 0, none⟩), .pointer (some ⟨B0, 0, none⟩), .pointer (some ⟨B2, 0, none⟩)]))
    (h0 : w.cell? ⟨B0, 0, none⟩ = some (.pointer (some ⟨p, 0, none⟩))) (h1 : w.cell? ⟨B1, 0, none⟩ = some (.int .i64 (a : Int))) (h2 : w.cell? ⟨B2, 0, none⟩ = some (.int .i64 (s : Int)))
    (hI : ∀ pre W1, I pre W1 → Fld W1 p) (hIt : ∀ pre W1 W2, I pre W1 → Fr (fun k => k = p ∨ (w.heap.size + 2 ≤ k ∧ k < w.heap.size + 6)) W1 W2 → Fld W2 p → I pre W2) (hIx : ∀ c pre W1, ¬ Ix c pre W1) :
    CallT Try.prog 32 #[.pointer (some ⟨C0, 0, none⟩), .pointer (some ⟨C1, 0, none⟩)] (fun c : UInt8 => #[.int .u8 (c.toNat : Int)]) I Ix (fun pre x W1 => x = pl a s pre.length ∧ w.heap.size + 6 ≤ W1.heap.size ∧ pre.length < n) SB w.heap.size (fun xs => xs = (List.range n).map (pl a s)) (fun _ => False) w := by
  intro J Jx W hsz hb hJI hJx hJt hJxt hY hJ0
  have l0 := World.block_lt_of_cell? _ _ h0
  have l1 := World.block_lt_of_cell? _ _ h1
  have l2 := World.block_lt_of_cell? _ _ h2
  have k0 := World.block_lt_of_cell? _ _ hc0
  have k1 := World.block_lt_of_cell? _ _ hc1
  dsimp only at l0 l1 l2 k0 k1
  obtain ⟨D, hD⟩ : ∃ D, w.heap.size = D := ⟨_, rfl⟩
  rw [hD] at hsz hJt hJxt hY hIt hSD hp ⊢
  have HJT := Lib.hid (show ∀ pre W1 W2, J pre W1 → Fr (fun k => k = p ∨ (D + 2 ≤ k ∧ k < D + 6)) W1 W2 → Fld W2 p → J pre W2 from fun pre W1 W2 h hf hF =>
    hJt _ _ _ _ h hf (by omega) (by omega) (hIt _ _ _ (hJI _ _ h) hf hF))
  have HY := Lib.hid hY
  have HJ := Lib.hid (And.intro hJ0 (And.intro hJI hI))
  have c0 := (hb.cell (p := ⟨C0, 0, none⟩) k0).trans hc0
  have c1 := (hb.cell (p := ⟨C1, 0, none⟩) k1).trans hc1
  have HC := Lib.hid (And.intro ((hb.cell (p := ⟨B0, 0, none⟩) l0).trans h0) (And.intro ((hb.cell (p := ⟨B1, 0, none⟩) l1).trans h1) ((hb.cell (p := ⟨B2, 0, none⟩) l2).trans h2)))
  have HN := Lib.hid (And.intro hs (And.intro hN (And.intro hn hn0)))
  have HS := Lib.hid (And.intro hSB (And.intro hSD (And.intro hne hp)))
  have HL := Lib.hid (And.intro (show B0 < D by omega) (And.intro (show B1 < D by omega) (show B2 < D by omega)))
  have HX := Lib.hid (And.intro hJx hIx)
  rw [hD] at k0 k1
  have HW := Lib.hid hsz
  clear hY hJ0 hJI hI hJt hJxt hc0 hc1 h0 h1 h2 hb hs hN hn hSB hSD hne hp l0 l1 l2 hJx hIx hIt hD w
  refine callsIn_of_wp_marks Try.func32 rfl trivial ?_ rfl
  refine wpIn_wide.2 ?_
  simp only [Try.ntmps32, List.size_toArray, List.length_cons, List.length_nil, Nat.reduceAdd, Nat.reduceSub, Array.replicate_succ, Array.replicate_zero, List.push_toArray, List.append_toArray, List.nil_append, List.cons_append]
  have hni : (n : Int) ≤ 1000 := by have := HN.out.2.2.2; omega
  obtain ⟨yv, hyv⟩ : ∃ yv : Value, Value.func (.yield (D + 1)) #[] #[] = yv := ⟨_, rfl⟩
  have hyo : yv.oneCell' = true := by rw [← hyv]; rfl
  have kk0 : C0 < W.heap.size := by omega
  have kk1 : C1 < W.heap.size := by omega
  have HYV := Lib.hid hyv
  rw [hyv]
  clear hyv hsz
  by_cases hz : n = 0
  · subst hz
    have hBl : Below W.heap.size W ((W.alloc (.cells #[yv] 66)).alloc (.cells #[.int .i64 ((0 : Nat) : Int)] 3)) := ((Below.refl _ W).alloc (Nat.le_refl _) _).alloc (by simp) _
    have HJ0 := Lib.hid (show J [] ((W.alloc (.cells #[yv] 66)).alloc (.cells #[.int .i64 ((0 : Nat) : Int)] 3)) from
      HJT.out _ _ _ HJ.out.1 (Fr.quiet hBl) (Fld.keep (HJ.out.2.2 _ _ (HJ.out.2.1 _ _ HJ.out.1)) hBl))
    clear hBl
    go_wp2_with fail
    refine ⟨.tuple #[], ?_, ⟨_, rfl⟩, HJ0.out⟩
    simp [results, Try.results32, go_sem]
  · have hzi : ¬ (n : Int) ≤ 0 := by omega
    go_wp2_with fail
    have hbs : (((W.alloc (.cells #[yv] 66)).alloc (.cells #[.int .i64 (n : Int)] 3))).heap.size = D + 4 := by simp; have := HW.out; omega
    have hBl : Below W.heap.size W ((W.alloc (.cells #[yv] 66)).alloc (.cells #[.int .i64 (n : Int)] 3)) := ((Below.refl _ W).alloc (Nat.le_refl _) _).alloc (by simp) _
    have hb1 : Blk ((W.alloc (.cells #[yv] 66)).alloc (.cells #[.int .i64 (n : Int)] 3)) (D + 2) 66 #[yv] := by
      have := (Blk.new W 66 #[yv]).alloc (.cells #[.int .i64 (n : Int)] 3)
      rwa [HW.out] at this
    have hb2 : Blk ((W.alloc (.cells #[yv] 66)).alloc (.cells #[.int .i64 (n : Int)] 3)) (D + 3) 3 #[.int .i64 (n : Int)] := by
      have := Blk.new (W.alloc (.cells #[yv] 66)) 3 #[.int .i64 (n : Int)]
      rw [World.size_alloc, HW.out] at this; exact this
    have HJ0 := Lib.hid (show J [] ((W.alloc (.cells #[yv] 66)).alloc (.cells #[.int .i64 (n : Int)] 3)) from
      HJT.out _ _ _ HJ.out.1 (Fr.quiet hBl) (Fld.keep (HJ.out.2.2 _ _ (HJ.out.2.1 _ _ HJ.out.1)) hBl))
    have HC0 := Lib.hid (And.intro ((hBl.cell (p := ⟨B0, 0, none⟩) (by have := HL.out; have := HW.out; dsimp only; omega)).trans HC.out.1) (And.intro ((hBl.cell (p := ⟨B1, 0, none⟩) (by have := HL.out; have := HW.out; dsimp only; omega)).trans HC.out.2.1) ((hBl.cell (p := ⟨B2, 0, none⟩) (by have := HL.out; have := HW.out; dsimp only; omega)).trans HC.out.2.2)))
    rw [HW.out] at *
    generalize (W.alloc (.cells #[yv] 66)).alloc (.cells #[.int .i64 (n : Int)] 3) = w3 at *
    have HB := Lib.hid (And.intro hb1 hb2)
    have HS3 := Lib.hid hbs
    clear hb1 hb2 hbs hBl c0 c1 kk0 kk1
    refine (wpIn_wide (n := 5)).1 ?_
    refine wpIn_rangeT (gf := 33) (lb := #[.pointer (some ⟨B1, 0, none⟩), .pointer (some ⟨B0, 0, none⟩), .pointer (some ⟨B2, 0, none⟩)]) (encs := fun c : UInt8 => #[.int .u8 (c.toNat : Int)]) rfl (enters_of Try.func33 (by kernel_rfl) rfl) (fun _ => rfl)
      (fun pre W' => J pre W' ∧ ((pre.length < n ∧ D + 6 ≤ W'.heap.size) ∧ pre = (List.range pre.length).map (pl a s)) ∧ Blk W' (D + 2) 66 #[yv] ∧ Blk W' (D + 3) 3 #[.int .i64 ((n : Int) - (pre.length : Int))])
      (fun c pre W' => c = .ret ∧ pre = (List.range n).map (pl a s) ∧ J pre W') (fun pre x _ => x = pl a s pre.length) (fun k => SB k ∨ k = D + 1 ∨ k = D + 3) (S := fun _ => False) (Sp := fun _ => True) ?hsb
      (powers_callT w3 p B0 B1 B2 a s N HN.out.1 HN.out.2.1 (fun k => SB k ∨ k = D + 1 ∨ k = D + 3) _ _ HS.out.2.2.1 ?hsb2 (by have := HS.out.2.2.2; have := HS3.out; omega) HC0.out.1 HC0.out.2.1 HC0.out.2.2 ?hpi ?hpt)
      ?hI ?hIx ?hLX ?h0 ?round ?done ?stop
    case hsb =>
      have h1 := HS.out.2.1 (D + 4) (by omega) (by omega)
      have h2 := HS.out.2.1 (D + 5) (by omega) (by omega)
      rw [HS3.out]
      exact ⟨fun h => h.elim h1 (by omega), fun h => h.elim h2 (by omega)⟩
    case hsb2 =>
      have h1 := HL.out
      exact ⟨fun h => h.elim HS.out.1.1 (by omega), fun h => h.elim HS.out.1.2.1 (by omega), fun h => h.elim HS.out.1.2.2 (by omega)⟩
    case hpi => exact fun pre W1 h => ⟨HJ.out.2.2 _ _ (HJ.out.2.1 _ _ h.1), by have := h.2.1.1.1; have := HN.out; omega⟩
    case hpt =>
      intro pre W1 W2 ⟨h1, h2, h3, h4⟩ hf hF
      have hp := HS.out.2.2.2
      exact ⟨HJT.out _ _ _ h1 (hf.mono fun k _ h => .inl h) hF, ⟨⟨h2.1.1, Nat.le_trans h2.1.2 hf.size⟩, h2.2⟩, h3.fr hf (by omega), h4.fr hf (by omega)⟩
    case hI =>
      intro pre W1 W2 ⟨h1, h2, h3, h4⟩ hf
      rw [HS3.out] at hf
      have hp := HS.out.2.2.2
      exact ⟨HJT.out _ _ _ h1 (hf.mono fun k _ h => .inr (by omega)) ((HJ.out.2.2 _ _ (HJ.out.2.1 _ _ h1)).fr hf (by omega)), ⟨⟨h2.1.1, Nat.le_trans h2.1.2 hf.size⟩, h2.2⟩, h3.fr hf (by omega), h4.fr hf (by omega)⟩
    case hIx =>
      intro c pre W1 W2 ⟨h1, h2, h3⟩ hf
      rw [HS3.out] at hf
      have hp := HS.out.2.2.2
      exact ⟨h1, h2, HJT.out _ _ _ h3 (hf.mono fun k _ h => .inr (by omega)) ((HJ.out.2.2 _ _ (HJ.out.2.1 _ _ h3)).fr hf (by omega))⟩
    case hLX => exact fun _ _ _ _ h _ => h
    case h0 =>
      intro W1 hb hs1
      exact ⟨HJT.out _ _ _ HJ0.out (Fr.quiet hb) ((HJ.out.2.2 _ _ (HJ.out.2.1 _ _ HJ0.out)).keep hb), ⟨⟨by simp; omega, by rw [hs1, HS3.out]; omega⟩, rfl⟩, HB.out.1.keep hb, by have := HB.out.2.keep hb; simpa using this⟩
    case round => 
      rintro l pre x W1 ⟨hJ1, ⟨⟨hl1, hsz1⟩, hpre⟩, hb1, hb2⟩ hx
      clear hsz1
      have HPRE := Lib.hid hpre
      clear hpre
      gi_wp2
      rintro W2 hJ2 hsz2 hpre2 hc1 hc2
      have HSZ := Lib.hid hsz2
      clear hpre2 hsz2
      have k1' := one hc1
      have k2' : W2.cell? ⟨D + 2 + 1, 0, none⟩ = some (.int .i64 ((n : Int) - (pre.length : Int))) := one hc2
      have kz : W2.frozen? ⟨D + 2 + 1, 0, none⟩ = false := hc2.frozen 0
      have HR := Lib.hid (And.intro hJ2 (And.intro hc1 hc2))
      have hli : (pre.length : Int) < (n : Int) := by omega
      have hl0 : (0 : Int) ≤ (pre.length : Int) := by omega
      have hy0 := HYV.out
      subst hy0
      subst hx
      obtain ⟨left, hleft⟩ : ∃ left : Nat, n - pre.length = left + 1 := ⟨n - pre.length - 1, by omega⟩
      have e1 : (n : Int) - (pre.length : Int) = (left : Int) + 1 := by omega
      have hle : (left : Int) ≤ 1000 := by omega
      have hle0 : (0 : Int) ≤ (left : Int) := by omega
      have hfs : Fr (fun k => k = D + 2 + 1) W2 (W2.setCell ⟨D + 2 + 1, 0, none⟩ (.int .i64 (left : Int))) := Fr.setCell (S := fun k => k = D + 2 + 1) (w' := W2) (Fr.refl _ W2) (p := ⟨D + 2 + 1, 0, none⟩) (fun _ => rfl) _
      obtain ⟨fn, tmps, assign, body, hy, hR⟩ := HY.out pre _ _ (HJT.out _ _ _ hJ2 (hfs.mono fun k _ h => .inr (by omega)) ((HJ.out.2.2 _ _ (HJ.out.2.1 _ _ hJ2)).fr hfs (by have := HS.out.2.2.2; omega))) ⟨rfl, by have := hfs.size; have := HSZ.out; omega, hl1⟩
      have HFS := Lib.hid hfs
      have HNL := Lib.hid hleft
      have hcS := hc2.set_ 0 (.int .i64 (left : Int))
      have HCS := Lib.hid hcS
      rw [e1] at k2'
      have hw0 : (left : Int) + 1 - 1 = (left : Int) := by omega
      clear hJ1 hb1 hb2 hJ2 hc1 hc2 hl1 hfs hleft e1 hli hl0 hcS
      gi_wp2
      refine (roundR hR).mono ?_
      rintro e W4 (⟨rfl, hJ4, hf4⟩ | ⟨rfl, hJx4, _⟩)
      · have hf5 : Fr (fun k => SB k ∨ k = D + 1 ∨ k = D + 3) W2 W4 := (HFS.out.mono (fun k _ h => .inr (.inr h))).trans hf4 (fun k _ h => h.elim .inl fun h => .inr (.inl h))
        have hd1 : Blk W4 (D + 2) 66 #[.func (.yield (D + 1)) #[] #[]] := HR.out.2.1.fr hf5 (fun h => h.elim (HS.out.2.1 _ (by omega) (by omega)) (by omega))
        have hd2 : Blk W4 (D + 3) 3 #[.int .i64 (left : Int)] := HCS.out.fr hf4 (fun h => h.elim (HS.out.2.1 _ (by omega) (by omega)) (by omega))
        have k4 : W4.cell? ⟨D + 2 + 1, 0, none⟩ = some (.int .i64 (left : Int)) := one hd2
        have H4 := Lib.hid (And.intro hJ4 (And.intro hf5 (And.intro hd1 hd2)))
        have hlx : (left : Int) = 0 ∨ 1 ≤ (left : Int) := by omega
        clear hJ4 hf4 hf5 hd1 hd2 hy k1' k2' kz
        rcases hlx with hl0 | hl1
        · have hl00 : left = 0 := by omega
          subst hl00
          gi_wp2
          refine ⟨H4.out.2.1, rfl, ?_, H4.out.1⟩
          have h5 : pre.length + 1 = n := by have := HNL.out; omega
          rw [← h5, List.range_succ, List.map_append, ← HPRE.out]; rfl
        · have hln : ¬ (left : Int) = 0 := by omega
          gi_wp2
          refine ⟨H4.out.2.1, H4.out.1, ⟨⟨?_, by have := H4.out.2.1.size; have := HSZ.out; omega⟩, ?_⟩, H4.out.2.2.1, ?_⟩
          · rw [List.length_append, List.length_singleton]; have := HNL.out; omega
          · rw [List.length_append, List.length_singleton, List.range_succ, List.map_append, ← HPRE.out]; rfl
          · have e2 : (n : Int) - ((pre ++ [pl a s pre.length]).length : Int) = (left : Int) := by rw [List.length_append, List.length_singleton]; have := HNL.out; omega
            rw [e2]; exact H4.out.2.2.2
      · obtain ⟨c, hc⟩ := HX.out.1 _ _ hJx4
        exact absurd hc (HX.out.2 _ _ _)
    case done => exact fun _ _ _ _ h => h.elim
    case stop =>
      rintro D' c pre W1 hD' _ ⟨rfl, hpre, hJ1⟩ hK
      rw [HS3.out] at hD'
      subst hD'
      have HE := Lib.hid (And.intro hpre (And.intro hJ1 hK))
      clear hpre hJ1 hK
      gi_wp2
      refine ⟨by simp, .inl ⟨_, _, rfl, run_takeDeferred HE.out.2.2, ?_⟩⟩
      refine ⟨.tuple #[], ?_, ⟨_, rfl⟩, ?_⟩
      · simp [results, Try.results32, go_sem]
      · have hp := HS.out.2.2.2
        have hf := put_fr (k := D + 4) (W := W1) (.deferred none)
        rw [← HE.out.1]
        exact HJT.out _ _ _ HE.out.2.1 (hf.mono fun k _ h => .inr (by omega)) ((HJ.out.2.2 _ _ (HJ.out.2.1 _ _ HE.out.2.1)).fr hf (by omega))
end Go.Proofs.Ytaeoocpiggebmaa.PtW
