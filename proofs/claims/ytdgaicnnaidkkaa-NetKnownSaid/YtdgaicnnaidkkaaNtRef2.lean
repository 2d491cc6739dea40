/- The document's net: Send, Take, Twice, Set. -/
import Derived.Test.YtdgaicnnaidkkaaNtRef
namespace Go.Proofs.Ytdgaicnnaidkkaa.NtW
open Go.RowKit Go.Shelf Mem Rng
set_option linter.unusedVariables false

theorem RefA.keep {G : Nat → Prop} {q most : Nat} {L : List (List UInt8)} {w w' : World} (h : RefA G q most L w) (hb : Below w.heap.size w w') : RefA G q most L w' := by
  obtain ⟨A, c, hn⟩ := h; exact ⟨A, c, hn.keep hb⟩
theorem rall_q (G : Nat → Prop) (q most : Nat) (L : List (List UInt8)) (w : World) (h : RefA G q most L w) : Calls Try.prog 30 #[.pointer (some ⟨q, 0, none⟩)] w fun e w' => e = .returned (.int .i64 (lens L : Int)) ∧ w' = w :=
  (rall_any G q most L w h).mono fun _ _ ⟨he, hw⟩ => ⟨he, hw.symm⟩
theorem RefOk.same' {w w' : World} {G : Nat → Prop} {q most : Nat} {L : List (List UInt8)} {v : Value} (h : RefA G q most L w) {n : Nat} (hb : w' = w.drewN n) : RefOk w G q most L v (.returned v) w' := by
  subst hb; exact RefOk.same h (nextN (Mem.start w) n)
theorem buildS (W : World) (s : ByteArray) : (Instr.buildSlice 55 1 #[(0, .string s)]).run Try.prog W = .ok (.slice (some ⟨W.heap.size, 0, none⟩) 1 1) (W.alloc (.cells #[.string s] 9)) := by kernel_rfl
set_option maxRecDepth 100000 in
set_option maxHeartbeats 4000000 in
theorem rsend_long (G : Nat → Prop) (q most : Nat) (L : List (List UInt8)) (w : World) (h : RefA G q most L w) (l : List UInt8) (hl : 131072 < l.length) :
    Calls Try.prog 26 #[.pointer (some ⟨q, 0, none⟩), .string (str l)] w (RefOk w G q most L (.int .i64 3)) := by
  have HF := Lib.hid (RefOk.same (v := .int .i64 3) h (Mem.start w))
  have hsz : (str l).size = l.length := rfl
  have hd : decide ((131072 : Int) < (l.length : Int)) = true := by simp; omega
  clear h hl
  go_enter Try.func26, Try.ntmps26
  go_wp2_with fail
  go_ret
  exact HF.out
set_option maxRecDepth 100000 in
set_option maxHeartbeats 4000000 in
theorem rsend_full (G : Nat → Prop) (q most : Nat) (A : Option Addr) (c : Nat) (L : List (List UInt8)) (w : World) (h : Ref G q A c most L w) (l : List UInt8) (hl : l.length ≤ 131072) (hf : most ≤ L.length ∨ 134217728 < lens L + l.length) :
    Calls Try.prog 26 #[.pointer (some ⟨q, 0, none⟩), .string (str l)] w (RefOk w G q most L (.int .i64 181)) := by
  have HF := Lib.hid (show RefA G q most L w from ⟨A, c, h⟩)
  have HQ := Lib.hid (show ∀ n, RefA G q most L (w.drewN n) from fun n => HF.out.keep (nextN (Mem.start w) n))
  obtain ⟨S, hS⟩ : ∃ S, lens L = S := ⟨_, rfl⟩
  obtain ⟨k, hk⟩ : ∃ k, L.length = k := ⟨_, rfl⟩
  obtain ⟨n, hn⟩ : ∃ n, l.length = n := ⟨_, rfl⟩
  have hsz : (str l).size = n := hn
  have hd : decide ((131072 : Int) < (n : Int)) = false := by simp; omega
  have h0 := h.cell0
  have h1 := h.cell1
  have hS2 : (S : Int) ≤ 256 ^ 4 := by have := h.bound.2.1; omega
  have hn2 : (n : Int) ≤ 256 ^ 3 := by omega
  have hS0 : (0 : Int) ≤ (S : Int) := by omega
  have hn0 : (0 : Int) ≤ (n : Int) := by omega
  have HS := Lib.hid hS
  rw [hS, hn] at hf
  rw [hk] at h1 hf
  by_cases hm : most ≤ k
  · have hmn : decide (most ≤ k) = true := by simpa using hm
    have hmi : decide ((most : Int) ≤ (k : Int)) = true := by simp; omega
    clear h hl hn hf hS hk hm
    go_enter Try.func26, Try.ntmps26
    go_wp2_with fail
    go_quiet (fail)
    go_wp2_with fail
    go_ret
    exact RefOk.same' HF.out rfl
  · have hmn : decide (most ≤ k) = false := by simpa using hm
    have hmi : decide ((most : Int) ≤ (k : Int)) = false := by simp; omega
    have hd2 : decide ((134217728 : Int) < (S : Int) + (n : Int)) = true := by simp; omega
    have hw : IntKind.i64.wrap ((S : Int) + (n : Int)) = (S : Int) + (n : Int) := IntWalk.i64_in _ (by omega)
    have HA := Lib.hid (show ∀ n, Calls Try.prog 30 #[.pointer (some ⟨q, 0, none⟩)] (w.drewN n) fun e w' => e = .returned (.int .i64 (S : Int)) ∧ w' = w.drewN n from fun n => by rw [← hS]; exact rall_q G q most L _ (HQ.out n))
    clear h hl hn hf hS hk hm
    go_enter Try.func26, Try.ntmps26
    go_wp2_with fail
    go_quiet ((go_at_call 30; exact Calls.quiet_of_same (HA.out _)))
    go_wp2_with fail
    go_ret
    exact RefOk.same' HF.out rfl
set_option maxRecDepth 100000 in
set_option maxHeartbeats 4000000 in
theorem rsend_ok (G : Nat → Prop) (q most : Nat) (A : Option Addr) (c : Nat) (L : List (List UInt8)) (w : World) (h : Ref G q A c most L w) (l : List UInt8) (hl : l.length ≤ 131072) (hf : ¬ (most ≤ L.length ∨ 134217728 < lens L + l.length)) :
    Calls Try.prog 26 #[.pointer (some ⟨q, 0, none⟩), .string (str l)] w (RefOk w G q most (L ++ [l]) (.int .i64 0)) := by
  obtain ⟨i0, hi0, hz0, hz1, hz2⟩ := info_parts strinfo
  have HR := Lib.hid h
  have HF := Lib.hid (show RefA G q most L w from ⟨A, c, h⟩)
  have HQ := Lib.hid (show ∀ n, RefA G q most L (w.drewN n) from fun n => HF.out.keep (nextN (Mem.start w) n))
  obtain ⟨S, hS⟩ : ∃ S, lens L = S := ⟨_, rfl⟩
  obtain ⟨k, hk⟩ : ∃ k, L.length = k := ⟨_, rfl⟩
  obtain ⟨n, hn⟩ : ∃ n, l.length = n := ⟨_, rfl⟩
  have hsz : (str l).size = n := hn
  have hd : decide ((131072 : Int) < (n : Int)) = false := by simp; omega
  have h0 := h.cell0
  have h1 := h.cell1
  have hS2 : (S : Int) ≤ 256 ^ 4 := by have := h.bound.2.1; omega
  have hn2 : (n : Int) ≤ 256 ^ 3 := by omega
  have hS0 : (0 : Int) ≤ (S : Int) := by omega
  have hn0 : (0 : Int) ≤ (n : Int) := by omega
  rw [hS, hn] at hf
  rw [hk] at h1 hf
  have hmn : decide (most ≤ k) = false := by simp; omega
  have hmi : decide ((most : Int) ≤ (k : Int)) = false := by simp; omega
  have hd2 : decide ((134217728 : Int) < (S : Int) + (n : Int)) = false := by simp; omega
  have hw : IntKind.i64.wrap ((S : Int) + (n : Int)) = (S : Int) + (n : Int) := IntWalk.i64_in _ (by omega)
  have HA := Lib.hid (show ∀ n, Calls Try.prog 30 #[.pointer (some ⟨q, 0, none⟩)] (w.drewN n) fun e w' => e = .returned (.int .i64 (S : Int)) ∧ w' = w.drewN n from fun n => by rw [← hS]; exact rall_q G q most L _ (HQ.out n))
  have HX := Lib.hid (show lens L = S ∧ L.length = k ∧ l.length = n ∧ k = (L.map sv).length ∧ k < 100000 ∧ S + n ≤ 134217728 from ⟨hS, hk, hn, by rw [List.length_map, hk], by have := h.bound; omega, by omega⟩)
  clear h hl hn hf hS hk
  go_enter Try.func26, Try.ntmps26
  go_wp2_with fail
  go_quiet ((go_at_call 30; exact Calls.quiet_of_same (HA.out _)))
  have HD := Lib.hid (HR.out.keep (nextN (Mem.start w) nq))
  have HBW := Lib.hid (nextN (Mem.start w) nq)
  have g1 := HD.out.cell1
  have z1 := HD.out.blk.frozen 1
  rw [HX.out.2.1] at g1
  clear h0 h1
  generalize w.drewN nq = W at *
  have hbd := buildS W (str l)
  have hne : ∀ g, A = some ⟨g, 0, none⟩ → g ≠ q := fun g hg => (HD.out.foot.2 g hg).2
  have HNE := Lib.hid hne
  clear hne
  go_wp2_with ((with_reducible show wpList _ _ _ ((⟨some 33, _, _, _, _, _⟩ : Oper) :: _) _ _); refine wpList_app _ rfl _ _ _ rfl 0 9 i0 _ 16 Try.underlying55 hi0 hz0 hz1 hz2 rfl A c k (L.map sv) rfl HX.out.2.2.2.1 (HD.out.own.alloc _) (W.heap.size + 1) (some ⟨W.heap.size, 0, none⟩) 1 1 [sv l] rfl rfl (cells_one W _ _ _ (by omega)) (by simp [Value.oneCell', sv]) (by have := HX.out; rw [← HX.out.2.2.2.1]; simp [maxLen]; omega) (by have := HX.out; rw [← HX.out.2.2.2.1]; simp; omega) (by omega) (k + 1) rfl ?_; intro A2 c2 w2 ho2 _ hg2 hA2; rw [World.size_alloc] at hA2; have hf2 : Fr (fun k => A = some ⟨k, 0, none⟩) W w2 := ((Fr.refl _ W).alloc (.cells #[.string (str l)] 9)).trans (Fr.grown (S := fun k => A = some ⟨k, 0, none⟩) hg2 (fun k hk => rowK HD.out.own hk)) (fun _ _ h => h); have HO2 := Lib.hid (And.intro ho2 (And.intro hf2 hA2)); have g2 := cellFr hf2 g1 (fun e => HNE.out q e rfl); have z2 := (frozenFr hf2 g1 (fun e => HNE.out q e rfl)).trans z1; clear ho2 hg2 hA2 hf2)
  go_ret
  obtain ⟨G', e1, e2, e3⟩ := HD.out.push (L2 := L ++ [l]) HO2.out.2.1 (fun k hk _ => hk) (by rw [List.map_append]; exact HO2.out.1) (HO2.out.2.2.imp id (fun e g hg => by rw [e] at hg; injection hg with hg; injection hg with hg; omega)) ⟨by rw [List.length_append, List.length_singleton, HX.out.2.1]; exact HX.out.2.2.2.2.1, by rw [lens_snoc, HX.out.1, HX.out.2.2.1]; exact HX.out.2.2.2.2.2⟩
  rw [List.length_append, List.length_singleton, HX.out.2.1] at e1 e3
  exact ⟨rfl, G', ⟨A2, c2, e1⟩, fun k hk => (e2 k hk).imp id (fun h => Nat.le_trans HBW.out.size h), (Fr.quiet HBW.out).trans e3 fun _ _ h => h⟩
theorem rsend_any (G : Nat → Prop) (q most : Nat) (L : List (List UInt8)) (w : World) (h : RefA G q most L w) (l : List UInt8) :
    Calls Try.prog 26 #[.pointer (some ⟨q, 0, none⟩), .string (str l)] w (RefOk w G q most (sendL most L l) (.int .i64 (sendE most L l))) := by
  by_cases h1 : 131072 < l.length
  · have e : sendE most L l = 3 := if_pos h1
    unfold sendL; rw [e, if_neg (by decide)]
    exact rsend_long G q most L w h l h1
  · obtain ⟨A, c, hm⟩ := h
    by_cases h2 : most ≤ L.length ∨ 134217728 < lens L + l.length
    · have e : sendE most L l = 181 := by unfold sendE; rw [if_neg h1]; exact if_pos h2
      unfold sendL; rw [e, if_neg (by decide)]
      exact rsend_full G q most A c L w hm l (by omega) h2
    · have e : sendE most L l = 0 := by unfold sendE; rw [if_neg h1]; exact if_neg h2
      unfold sendL; rw [e, if_pos rfl]
      exact rsend_ok G q most A c L w hm l (by omega) h2
set_option maxRecDepth 100000 in
set_option maxHeartbeats 4000000 in
theorem rtwice_any (G : Nat → Prop) (q most : Nat) (L : List (List UInt8)) (w : World) (h : RefA G q most L w) (i : Int) :
    Calls Try.prog 24 #[.pointer (some ⟨q, 0, none⟩), .int .i64 i] w (RefOk w G q most (twiceL most L i) (.int .i64 (twiceE most L i))) := by
  have HR := Lib.hid (rat_any G q most L w h i)
  have HN := Lib.hid h
  unfold twiceL twiceE
  clear h
  cases hv : atV L i with
  | none =>
    rw [hv] at HR
    dsimp only
    clear hv
    go_enter Try.func24, Try.ntmps24
    go_wp2_with fail
    refine HR.out.mono ?_
    rintro e w1 ⟨rfl, rfl⟩
    have H1 := Lib.hid (RefOk.same (v := .int .i64 5) HN.out (Mem.start w))
    clear HR
    go_wp2_with fail
    go_ret
    exact H1.out
  | some l =>
    rw [hv] at HR
    dsimp only
    clear hv
    go_enter Try.func24, Try.ntmps24
    go_wp2_with fail
    refine HR.out.mono ?_
    rintro e w1 ⟨rfl, rfl⟩
    have HS := Lib.hid (rsend_any G q most L w HN.out l)
    clear HR
    rw [show (some l).getD [] = l from rfl]
    go_wp2_with fail
    refine HS.out.mono ?_
    rintro e w2 ⟨rfl, h2⟩
    have H2 := Lib.hid h2
    clear h2 HS
    go_wp2_with fail
    go_ret
    exact ⟨rfl, H2.out⟩
theorem lens_app (a b : List (List UInt8)) : lens (a ++ b) = lens a + lens b := by unfold lens; rw [List.map_append, List.sum_append_nat]
theorem lens_erase (L : List (List UInt8)) (i : Nat) : lens (L.eraseIdx i) ≤ lens L := by
  rw [List.eraseIdx_eq_take_drop_succ, lens_app]
  have h1 : lens L = lens (L.take i) + lens (L.drop i) := by rw [← lens_app, List.take_append_drop]
  have h2 : lens (L.drop i) = lens ((L.drop i).take 1) + lens ((L.drop i).drop 1) := by rw [← lens_app, List.take_append_drop]
  rw [List.drop_drop] at h2
  omega
/-- What the document's Take leaves. -/
def RTakeOk (w : World) (G : Nat → Prop) (q most : Nat) (L : List (List UInt8)) (v : Option (List UInt8)) (e : Ending) (w' : World) : Prop :=
  e = .returned (.tuple #[.string (str (v.getD [])), .bool v.isSome]) ∧ ∃ G', RefA G' q most L w' ∧ Grow G G' w ∧ Fr G w w'
set_option maxRecDepth 100000 in
set_option maxHeartbeats 4000000 in
theorem rtake_no (G : Nat → Prop) (q most : Nat) (L : List (List UInt8)) (w : World) (h : RefA G q most L w) (i : Int) (hv : atV L i = none) :
    Calls Try.prog 23 #[.pointer (some ⟨q, 0, none⟩), .int .i64 i] w (RTakeOk w G q most L none) := by
  have HR := Lib.hid (rat_any G q most L w h i)
  have HN := Lib.hid h
  rw [hv] at HR
  clear h hv
  go_enter Try.func23, Try.ntmps23
  go_wp2_with fail
  refine HR.out.mono ?_
  rintro e w1 ⟨rfl, rfl⟩
  clear HR
  go_wp2_with fail
  go_ret2
  exact ⟨rfl, G, HN.out, fun _ h => .inl h, Fr.refl _ _⟩
set_option maxRecDepth 100000 in
set_option maxHeartbeats 8000000 in
theorem rtake_yes (G : Nat → Prop) (q most : Nat) (A : Option Addr) (c : Nat) (L : List (List UInt8)) (w : World) (h : Ref G q A c most L w) (i : Nat) (l : List UInt8) (hl : L[i]? = some l) :
    Calls Try.prog 23 #[.pointer (some ⟨q, 0, none⟩), .int .i64 (i : Int)] w (RTakeOk w G q most (L.eraseIdx i) (some l)) := by
  obtain ⟨i0, hi0, hz0, hz1, hz2⟩ := info_parts strinfo
  have HR := Lib.hid (show Calls Try.prog 27 #[.pointer (some ⟨q, 0, none⟩), .int .i64 (i : Int)] w fun e w' => e = .returned (.tuple #[.string (str l), .bool true]) ∧ w = w' from by have := rat_any G q most L w ⟨A, c, h⟩ (i : Int); rwa [atV_nat, hl] at this)
  obtain ⟨g, rfl, _, _⟩ := h.row_at hl
  have hi : i < L.length := (List.getElem?_eq_some_iff.1 hl).1
  obtain ⟨n, hn⟩ : ∃ n, L.length = n := ⟨_, rfl⟩
  have h1 := h.cell1
  have z1 := h.blk.frozen 1
  have hle := h.own.le
  have hmax := h.own.max
  unfold maxLen at hmax
  rw [List.length_map] at hle
  rw [hn] at h1 hi hle
  obtain ⟨A0, hA, hsrc⟩ : ∃ A0 : Addr, (if c = i + 1 then (some ⟨g, 0, none⟩ : Option Addr) else some ⟨g, i + 1, none⟩) = some A0 ∧ Hid (Cells w w.heap.size (some A0) ((L.map sv).drop (i + 1))) := by
    by_cases hc : c = i + 1
    · refine ⟨⟨g, 0, none⟩, by simp [hc], ?_⟩
      have : (L.map sv).drop (i + 1) = [] := List.drop_eq_nil_of_le (by rw [List.length_map, hn]; omega)
      rw [this]; exact Cells.nil
    · refine ⟨⟨g, i + 1, none⟩, by simp [hc], ?_⟩
      have := h.own.cells.drop (i + 1)
      rwa [Nat.zero_add] at this
  obtain ⟨m, hm⟩ : ∃ m, n - (i + 1) = m := ⟨_, rfl⟩
  have HC := Lib.hid (And.intro (h.own.cells.take i) hsrc.out)
  have HN := Lib.hid h
  have HX := Lib.hid (show L.length = n ∧ i < n ∧ n ≤ 100000 ∧ i = ((L.map sv).take i).length ∧ m = ((L.map sv).drop (i + 1)).length from ⟨hn, hi, by have := h.bound.1; omega, by rw [List.length_take, List.length_map]; omega, by rw [List.length_drop, List.length_map]; omega⟩)
  have HS := Lib.hid (show (∀ u ∈ (L.map sv).take i, u.oneCell' = true) ∧ (∀ u ∈ (L.map sv).drop (i + 1), u.oneCell' = true) from ⟨fun u hu => sv_one L u (List.mem_of_mem_take hu), fun u hu => sv_one L u (List.mem_of_mem_drop hu)⟩)
  have h2 : (i : Int) < (n : Int) := by omega
  have h3 : (n : Int) ≤ (c : Int) := by omega
  have h4 : (c : Int) ≤ 9223372036854775807 := by omega
  have h5 : (i : Int) + 1 ≤ (n : Int) := by omega
  have h6 : (0 : Int) ≤ (i : Int) + 1 := by omega
  have h7 : (0 : Int) ≤ (i : Int) := by omega
  have h8 : (i : Int) ≤ (c : Int) := by omega
  have hq : q < w.heap.size := h.lt q h.foot.1
  have hnew : A0 = A0 := rfl
  clear h hl hi hn hle hmax hsrc hnew
  go_enter Try.func23, Try.ntmps23
  go_wp2_with fail
  refine HR.out.mono ?_
  rintro e w' ⟨rfl, rfl⟩
  clear HR
  go_wp2_with (first
    | ((with_reducible show wpList _ _ _ ((⟨some 23, _, _, _, _, _⟩ : Oper) :: _) _ _); refine wpList_app _ rfl _ _ _ rfl w.heap.size 9 i0 _ 16 Try.underlying55 hi0 hz0 hz1 hz2 rfl none 0 0 [] rfl rfl Mem.Own.nil w.heap.size (some ⟨g, 0, none⟩) c i ((L.map sv).take i) rfl HX.out.2.2.2.1 HC.out.1 HS.out.1 (by have := HX.out; rw [← HX.out.2.2.2.1]; simp [maxLen]; omega) (by have := HX.out; rw [← HX.out.2.2.2.1]; simp; omega) (Nat.le_refl _) i (by simp) ?_; intro A1 c1 w1 ho1 hb1 _ hA1; have g1 := cellB hb1 h1; have zz1 := (hb1.frozen (p := ⟨q, 1, none⟩) hq).trans z1; have HO1 := Lib.hid (And.intro ho1 (And.intro hb1 hA1)); clear ho1 hb1 hA1 h1 z1)
    | ((with_reducible show wpList _ _ _ ((⟨some 33, _, _, _, _, _⟩ : Oper) :: _) _ _); refine wpList_app _ rfl _ _ _ rfl w.heap.size 9 i0 _ 16 Try.underlying55 hi0 hz0 hz1 hz2 rfl A1 c1 i ((L.map sv).take i) rfl HX.out.2.2.2.1 (by have := HO1.out.1; rwa [List.nil_append] at this) w.heap.size (some A0) (c - (i + 1)) m ((L.map sv).drop (i + 1)) rfl HX.out.2.2.2.2 (HC.out.2.below HO1.out.2.1) HS.out.2 (by have := HX.out; rw [← HX.out.2.2.2.1, ← HX.out.2.2.2.2]; simp [maxLen]; omega) (by have := HX.out; rw [← HX.out.2.2.2.1, ← HX.out.2.2.2.2]; omega) HO1.out.2.1.size (i + m) rfl ?_; intro A2 c2 w2 ho2 hb2 _ hA2; have g2 := (hb2.cell (p := ⟨q, 1, none⟩) hq).trans g1; have zz2 := (hb2.frozen (p := ⟨q, 1, none⟩) hq).trans zz1; have HO2 := Lib.hid (And.intro ho2 (HO1.out.2.1.trans hb2)); clear ho2 hb2 hA2 g1 zz1))
  go_ret2
  have e0 : (L.eraseIdx i).map sv = (L.map sv).take i ++ (L.map sv).drop (i + 1) := by rw [map_erase, List.eraseIdx_eq_take_drop_succ]
  have e1 : (L.eraseIdx i).length = i + m := by have := congrArg List.length e0; rw [List.length_map, List.length_append, ← HX.out.2.2.2.1, ← HX.out.2.2.2.2] at this; exact this
  obtain ⟨G', k1, k2, k3⟩ := HN.out.push (L2 := L.eraseIdx i) (S := fun _ => False) (Fr.quiet HO2.out.2) (fun k hk _ => hk.elim) (by rw [e0]; exact HO2.out.1.down (Nat.zero_le _)) (.inr fun g' hg' => by
    rcases HO2.out.1.form with ⟨e, _⟩ | ⟨g2, e, h2, _⟩
    · rw [e] at hg'; cases hg'
    · rw [e] at hg'; injection hg' with hg'; injection hg' with hg'; omega) ⟨by have := HX.out; have := HX.out.2.2.2.2; rw [List.length_drop, List.length_map] at this; omega, Nat.le_trans (lens_erase L i) HN.out.bound.2.1⟩
  rw [e1] at k1 k3
  exact ⟨rfl, G', ⟨A2, c2, k1⟩, k2, k3⟩
set_option maxRecDepth 100000 in
set_option maxHeartbeats 4000000 in
theorem rset_none (G : Nat → Prop) (q most : Nat) (L : List (List UInt8)) (w : World) (h : RefA G q most L w) (i : Int) (hv : atV L i = none) (s : ByteArray) :
    Calls Try.prog 25 #[.pointer (some ⟨q, 0, none⟩), .int .i64 i, .string s] w (RefOk w G q most L (.int .i64 5)) := by
  have HF := Lib.hid (RefOk.same (v := .int .i64 5) h (Mem.start w))
  obtain ⟨A, c, hn⟩ := h
  have h1 := hn.cell1
  by_cases hi : i < 0
  · clear hn hv
    go_enter Try.func25, Try.ntmps25
    go_wp2_with fail
    go_ret
    exact HF.out
  · have hi2 : (L.length : Int) ≤ i := by
      unfold atV at hv; rw [if_neg hi] at hv
      have := List.getElem?_eq_none_iff.1 hv; omega
    clear hn hv
    go_enter Try.func25, Try.ntmps25
    go_wp2_with fail
    go_ret
    exact HF.out
set_option maxRecDepth 100000 in
set_option maxHeartbeats 4000000 in
theorem rset_long (G : Nat → Prop) (q : Nat) (A : Option Addr) (c most : Nat) (L : List (List UInt8)) (w : World) (h : Ref G q A c most L w) (i : Nat) (o : List UInt8) (ho : L[i]? = some o) (l : List UInt8) (hl : 131072 < l.length) :
    Calls Try.prog 25 #[.pointer (some ⟨q, 0, none⟩), .int .i64 (i : Int), .string (str l)] w (RefOk w G q most L (.int .i64 3)) := by
  have HF := Lib.hid (RefOk.same (v := .int .i64 3) ⟨A, c, h⟩ (Mem.start w))
  obtain ⟨S, hS⟩ : ∃ S, lens L = S := ⟨_, rfl⟩
  obtain ⟨k, hk⟩ : ∃ k, L.length = k := ⟨_, rfl⟩
  obtain ⟨n, hn⟩ : ∃ n, l.length = n := ⟨_, rfl⟩
  obtain ⟨d, hdo⟩ : ∃ d, o.length = d := ⟨_, rfl⟩
  have hsz : (str l).size = n := hn
  have hso : (str o).size = d := hdo
  obtain ⟨g, rfl, hc, hz⟩ := h.row_at ho
  have h1 := h.cell1
  have hi : i < L.length := (List.getElem?_eq_some_iff.1 ho).1
  have hdS : d ≤ S := by rw [← hdo, ← hS]; have := lens_take_succ L i o ho; have := lens_take_le L (i + 1); omega
  rw [hk] at h1 hi
  have hS2 : (S : Int) ≤ 256 ^ 4 := by have := h.bound.2.1; omega
  have hS0 : (0 : Int) ≤ (S : Int) := by omega
  have hd0 : (0 : Int) ≤ (d : Int) := by omega
  have hd1 : (d : Int) ≤ (S : Int) := by omega
  have hn0 : (0 : Int) ≤ (n : Int) := by omega
  have hi1 : (i : Int) < (k : Int) := by omega
  have hi0' : (0 : Int) ≤ (i : Int) := by omega
  unfold sv at hc
  have hd : decide ((131072 : Int) < (n : Int)) = true := by simp; omega
  clear h ho hl hn hS hk hdo hi
  go_enter Try.func25, Try.ntmps25
  go_wp2_with fail
  go_ret
  exact HF.out
set_option maxRecDepth 100000 in
set_option maxHeartbeats 4000000 in
theorem rset_full (G : Nat → Prop) (q : Nat) (A : Option Addr) (c most : Nat) (L : List (List UInt8)) (w : World) (h : Ref G q A c most L w) (i : Nat) (o : List UInt8) (ho : L[i]? = some o) (l : List UInt8) (hl : l.length ≤ 131072) (hf : 134217728 < lens L - o.length + l.length) :
    Calls Try.prog 25 #[.pointer (some ⟨q, 0, none⟩), .int .i64 (i : Int), .string (str l)] w (RefOk w G q most L (.int .i64 181)) := by
  have HF := Lib.hid (show RefA G q most L w from ⟨A, c, h⟩)
  have HQ := Lib.hid (show ∀ n, RefA G q most L (w.drewN n) from fun n => HF.out.keep (nextN (Mem.start w) n))
  obtain ⟨S, hS⟩ : ∃ S, lens L = S := ⟨_, rfl⟩
  obtain ⟨k, hk⟩ : ∃ k, L.length = k := ⟨_, rfl⟩
  obtain ⟨n, hn⟩ : ∃ n, l.length = n := ⟨_, rfl⟩
  obtain ⟨d, hdo⟩ : ∃ d, o.length = d := ⟨_, rfl⟩
  have hsz : (str l).size = n := hn
  have hso : (str o).size = d := hdo
  obtain ⟨g, rfl, hc, hz⟩ := h.row_at ho
  have h1 := h.cell1
  have hi : i < L.length := (List.getElem?_eq_some_iff.1 ho).1
  have hdS : d ≤ S := by rw [← hdo, ← hS]; have := lens_take_succ L i o ho; have := lens_take_le L (i + 1); omega
  rw [hk] at h1 hi
  have hS2 : (S : Int) ≤ 256 ^ 4 := by have := h.bound.2.1; omega
  have hS0 : (0 : Int) ≤ (S : Int) := by omega
  have hd0 : (0 : Int) ≤ (d : Int) := by omega
  have hd1 : (d : Int) ≤ (S : Int) := by omega
  have hn0 : (0 : Int) ≤ (n : Int) := by omega
  have hi1 : (i : Int) < (k : Int) := by omega
  have hi0' : (0 : Int) ≤ (i : Int) := by omega
  unfold sv at hc
  rw [hS, hn, hdo] at hf
  have hn2 : (n : Int) ≤ 256 ^ 3 := by omega
  have hd : decide ((131072 : Int) < (n : Int)) = false := by simp; omega
  have hd2 : decide ((134217728 : Int) < (S : Int) - (d : Int) + (n : Int)) = true := by simp; omega
  have hw : IntKind.i64.wrap ((S : Int) - (d : Int)) = (S : Int) - (d : Int) := IntWalk.i64_in _ (by omega)
  have hw2 : IntKind.i64.wrap ((S : Int) - (d : Int) + (n : Int)) = (S : Int) - (d : Int) + (n : Int) := IntWalk.i64_in _ (by omega)
  have HA := Lib.hid (show ∀ n, Calls Try.prog 30 #[.pointer (some ⟨q, 0, none⟩)] (w.drewN n) fun e w' => e = .returned (.int .i64 (S : Int)) ∧ w' = w.drewN n from fun n => by rw [← hS]; exact rall_q G q most L _ (HQ.out n))
  clear h ho hl hn hS hk hdo hi hf hdS
  go_enter Try.func25, Try.ntmps25
  go_wp2_with fail
  go_quiet ((go_at_call 30; exact Calls.quiet_of_same (HA.out _)))
  go_wp2_with fail
  go_ret
  exact RefOk.same' HF.out rfl
theorem lens_set : ∀ (L : List (List UInt8)) (i : Nat) (o l : List UInt8), L[i]? = some o → lens (L.set i l) + o.length = lens L + l.length
  | [], i, o, l, h => by cases h
  | a :: r, 0, o, l, h => by injection h with h; subst h; simp [lens]; omega
  | a :: r, i + 1, o, l, h => by
    have ih := lens_set r i o l h
    simp [lens] at ih ⊢; omega
set_option maxRecDepth 100000 in
set_option maxHeartbeats 4000000 in
theorem rset_ok (G : Nat → Prop) (q : Nat) (A : Option Addr) (c most : Nat) (L : List (List UInt8)) (w : World) (h : Ref G q A c most L w) (i : Nat) (o : List UInt8) (ho : L[i]? = some o) (l : List UInt8) (hl : l.length ≤ 131072) (hf : lens L - o.length + l.length ≤ 134217728) :
    Calls Try.prog 25 #[.pointer (some ⟨q, 0, none⟩), .int .i64 (i : Int), .string (str l)] w (RefOk w G q most (L.set i l) (.int .i64 0)) := by
  have HF := Lib.hid (show RefA G q most L w from ⟨A, c, h⟩)
  have HQ := Lib.hid (show ∀ n, RefA G q most L (w.drewN n) from fun n => HF.out.keep (nextN (Mem.start w) n))
  obtain ⟨S, hS⟩ : ∃ S, lens L = S := ⟨_, rfl⟩
  obtain ⟨k, hk⟩ : ∃ k, L.length = k := ⟨_, rfl⟩
  obtain ⟨n, hn⟩ : ∃ n, l.length = n := ⟨_, rfl⟩
  obtain ⟨d, hdo⟩ : ∃ d, o.length = d := ⟨_, rfl⟩
  have hsz : (str l).size = n := hn
  have hso : (str o).size = d := hdo
  obtain ⟨g, rfl, hc, hz⟩ := h.row_at ho
  have h1 := h.cell1
  have hi : i < L.length := (List.getElem?_eq_some_iff.1 ho).1
  have hdS : d ≤ S := by rw [← hdo, ← hS]; have := lens_take_succ L i o ho; have := lens_take_le L (i + 1); omega
  rw [hk] at h1 hi
  have hS2 : (S : Int) ≤ 256 ^ 4 := by have := h.bound.2.1; omega
  have hS0 : (0 : Int) ≤ (S : Int) := by omega
  have hd0 : (0 : Int) ≤ (d : Int) := by omega
  have hd1 : (d : Int) ≤ (S : Int) := by omega
  have hn0 : (0 : Int) ≤ (n : Int) := by omega
  have hi1 : (i : Int) < (k : Int) := by omega
  have hi0' : (0 : Int) ≤ (i : Int) := by omega
  unfold sv at hc
  have hls := lens_set L i o l ho
  have HR := Lib.hid h
  have HLS := Lib.hid (show lens (L.set i l) ≤ 134217728 from by omega)
  have HX := Lib.hid (And.intro hk hi)
  rw [hS, hn, hdo] at hf
  have hn2 : (n : Int) ≤ 256 ^ 3 := by omega
  have hd : decide ((131072 : Int) < (n : Int)) = false := by simp; omega
  have hd2 : decide ((134217728 : Int) < (S : Int) - (d : Int) + (n : Int)) = false := by simp; omega
  have hw : IntKind.i64.wrap ((S : Int) - (d : Int)) = (S : Int) - (d : Int) := IntWalk.i64_in _ (by omega)
  have hw2 : IntKind.i64.wrap ((S : Int) - (d : Int) + (n : Int)) = (S : Int) - (d : Int) + (n : Int) := IntWalk.i64_in _ (by omega)
  have HA := Lib.hid (show ∀ n, Calls Try.prog 30 #[.pointer (some ⟨q, 0, none⟩)] (w.drewN n) fun e w' => e = .returned (.int .i64 (S : Int)) ∧ w' = w.drewN n from fun n => by rw [← hS]; exact rall_q G q most L _ (HQ.out n))
  clear h ho hl hn hS hk hdo hi hf hdS hls
  go_enter Try.func25, Try.ntmps25
  go_wp2_with fail
  go_quiet ((go_at_call 30; exact Calls.quiet_of_same (HA.out _)))
  have HD := Lib.hid (HR.out.keep (nextN (Mem.start w) nq))
  have HBW := Lib.hid (nextN (Mem.start w) nq)
  go_wp2_with fail
  go_ret
  obtain ⟨g', hA, hg', _, _, _, hs⟩ := HD.out.own.at_ (k := i) (by rw [List.length_map, HX.out.1]; exact HX.out.2)
  injection hA with hA; injection hA with hA; subst hA
  have hgq := (HD.out.foot.2 g rfl).2
  have hG := (HD.out.foot.2 g rfl).1
  refine ⟨rfl, G, ⟨_, c, (HD.out.blk.far (p := ⟨g, i, none⟩) hgq _) |> (by rw [List.length_set]; exact ·), by rw [List.map_set]; exact hs _, HD.out.foot, fun k hk => by have := HD.out.lt k hk; simpa [World.setCell] using this, by rw [List.length_set]; exact HD.out.bound.1, HLS.out, HD.out.bound.2.2⟩, fun _ h => .inl h, ((Fr.refl G w).drewN nq).setCell (p := ⟨g, i, none⟩) (fun _ => hG) _⟩
theorem rset_any (G : Nat → Prop) (q most : Nat) (L : List (List UInt8)) (w : World) (h : RefA G q most L w) (i : Int) (l : List UInt8) :
    Calls Try.prog 25 #[.pointer (some ⟨q, 0, none⟩), .int .i64 i, .string (str l)] w (RefOk w G q most (setL L i l) (.int .i64 (setE L i l))) := by
  cases hv : atV L i with
  | none =>
    have e : setE L i l = 5 := by unfold setE; rw [hv]
    unfold setL; rw [e, if_neg (by decide)]
    exact rset_none G q most L w h i hv _
  | some o =>
    obtain ⟨A, c, hm⟩ := h
    have hv' := hv
    have hi : ¬ i < 0 := fun hi => by unfold atV at hv'; rw [if_pos hi] at hv'; cases hv'
    obtain ⟨k, rfl⟩ : ∃ k : Nat, i = (k : Int) := ⟨i.toNat, by omega⟩
    rw [atV_nat] at hv'
    by_cases h1 : 131072 < l.length
    · have e : setE L (k : Int) l = 3 := by unfold setE; rw [hv]; exact if_pos h1
      unfold setL; rw [e, if_neg (by decide)]
      exact rset_long G q A c most L w hm k o hv' l h1
    · by_cases h2 : 134217728 < lens L - o.length + l.length
      · have e : setE L (k : Int) l = 181 := by unfold setE; rw [hv]; dsimp only; rw [if_neg h1]; exact if_pos h2
        unfold setL; rw [e, if_neg (by decide)]
        exact rset_full G q A c most L w hm k o hv' l (by omega) h2
      · have e : setE L (k : Int) l = 0 := by unfold setE; rw [hv]; dsimp only; rw [if_neg h1]; exact if_neg h2
        unfold setL; rw [e, if_pos rfl, Int.toNat_natCast]
        exact rset_ok G q A c most L w hm k o hv' l (by omega) (by omega)
theorem rtake_any (G : Nat → Prop) (q most : Nat) (L : List (List UInt8)) (w : World) (h : RefA G q most L w) (i : Int) :
    Calls Try.prog 23 #[.pointer (some ⟨q, 0, none⟩), .int .i64 i] w (RTakeOk w G q most (if (atV L i).isSome then L.eraseIdx i.toNat else L) (atV L i)) := by
  cases hv : atV L i with
  | none => exact rtake_no G q most L w h i hv
  | some o =>
    obtain ⟨A, c, hm⟩ := h
    have hv' := hv
    have hi : ¬ i < 0 := fun hi => by unfold atV at hv'; rw [if_pos hi] at hv'; cases hv'
    obtain ⟨k, rfl⟩ : ∃ k : Nat, i = (k : Int) := ⟨i.toNat, by omega⟩
    rw [atV_nat] at hv'
    exact rtake_yes G q most A c L w hm k o hv'
end Go.Proofs.Ytdgaicnnaidkkaa.NtW
