/- The law NetKeeps: its walk. -/
import Derived.Test.YtdgaicnnaidkkaaNtWorks
namespace Go.Proofs.Ytdgaicnnaidkkaa.NtW
open Go.RowKit Go.Shelf Mem Rng
set_option linter.unusedVariables false

/-- A net since w0, and a row of the law's own beside it. -/
def KS (w0 : World) (p most : Nat) (L : List (List UInt8)) (T : TypeId) (A : Option Addr) (c : Nat) (xs : List Value) (w : World) : Prop :=
  ∃ F, NetA F p most L w ∧ (∀ k, F k → w0.heap.size ≤ k ∧ k < w.heap.size) ∧ Below w0.heap.size w0 w ∧ Mem.Own w w0.heap.size T A c xs ∧ ∀ g, A = some ⟨g, 0, none⟩ → ¬ F g
theorem NetA.lt {F : Nat → Prop} {p most : Nat} {L : List (List UInt8)} {w : World} (h : NetA F p most L w) : ∀ k, F k → k < w.heap.size := by
  obtain ⟨A, c, ms, e, hn⟩ := h; exact hn.lt
section
variable {w0 w w' : World} {p most : Nat} {L L' : List (List UInt8)} {T : TypeId} {A : Option Addr} {c : Nat} {xs : List Value}
theorem KS.ns (h : KS w0 p most L T A c xs w) : NS w0 p most L w := by
  obtain ⟨F, h1, h2, h3, h4, h5⟩ := h; exact ⟨F, h1, fun k hk => (h2 k hk).1, h3⟩
theorem KS.below (h : KS w0 p most L T A c xs w) : Below w0.heap.size w0 w := h.ns.below
theorem KS.own (h : KS w0 p most L T A c xs w) : Mem.Own w w0.heap.size T A c xs := by
  obtain ⟨F, h1, h2, h3, h4, h5⟩ := h; exact h4
theorem KS.start (h : NS w0 p most L w) : KS w0 p most L T none 0 [] w := by
  obtain ⟨F, h1, h2, h3⟩ := h; exact ⟨F, h1, fun k hk => ⟨h2 k hk, h1.lt k hk⟩, h3, Mem.Own.nil, fun g hg => by cases hg⟩
theorem KS.keep (h : KS w0 p most L T A c xs w) (hb : Below w.heap.size w w') : KS w0 p most L T A c xs w' := by
  obtain ⟨F, h1, h2, h3, h4, h5⟩ := h
  exact ⟨F, h1.keep hb, fun k hk => ⟨(h2 k hk).1, Nat.lt_of_lt_of_le (h2 k hk).2 hb.size⟩, next h3 hb, h4.keep hb, h5⟩
theorem KS.turn {F F' : Nat → Prop} (h2 : ∀ k, F k → w0.heap.size ≤ k ∧ k < w.heap.size) (h3 : Below w0.heap.size w0 w) (h4 : Mem.Own w w0.heap.size T A c xs) (h5 : ∀ g, A = some ⟨g, 0, none⟩ → ¬ F g) (k1 : NetA F' p most L' w') (k2 : Grow F F' w) (k3 : Fr F w w') : KS w0 p most L' T A c xs w' :=
  ⟨F', k1, fun k hk => ⟨(k2 k hk).elim (fun h => (h2 k h).1) (fun h => Nat.le_trans h3.size h), k1.lt k hk⟩, h3.trans (k3.below h3.size fun k hk => (h2 k hk).1), h4.fr k3 h5, fun g hg hk => (k2 g hk).elim (h5 g hg) (fun h => by
    rcases h4.form with ⟨e, _⟩ | ⟨g2, e, _, h6, _⟩
    · rw [e] at hg; cases hg
    · rw [e] at hg; injection hg with hg; injection hg with hg; omega)⟩
/-- The row turned, or a new one in its place. -/
theorem KS.row (h : KS w0 p most L T A c xs w) {T' : TypeId} {A' : Option Addr} {c' : Nat} {ys : List Value} (ho : Mem.Own w' w0.heap.size T' A' c' ys) (hf : Fr (fun k => A = some ⟨k, 0, none⟩) w w') (hA : A' = A ∨ ∀ g, A' = some ⟨g, 0, none⟩ → w.heap.size ≤ g) : KS w0 p most L T' A' c' ys w' := by
  obtain ⟨F, h1, h2, h3, h4, h5⟩ := h
  have hn : NetA F p most L w' := by
    obtain ⟨B, d, ms, e, hn⟩ := h1
    exact ⟨B, d, ms, e, hn.fr hf (fun k hk e => h5 k e hk)⟩
  have hAb : ∀ k, A = some ⟨k, 0, none⟩ → w0.heap.size ≤ k := fun k hk => by
    rcases h4.form with ⟨e, _⟩ | ⟨g2, e, h6, _⟩
    · rw [e] at hk; cases hk
    · rw [e] at hk; injection hk with hk; injection hk with hk; omega
  refine ⟨F, hn, fun k hk => ⟨(h2 k hk).1, Nat.lt_of_lt_of_le (h2 k hk).2 hf.size⟩, h3.trans (hf.below h3.size hAb), ho, fun g hg hk => ?_⟩
  rcases hA with e | e
  · rw [e] at hg; exact h5 g hg hk
  · have := e g hg; have := (h2 g hk).2; omega
variable (h : KS w0 p most L T A c xs w)
include h
theorem sendK (B : Option Addr) (l : List UInt8) (n cb : Nat) (hn : n = l.length) (hB : Bytes w w.heap.size B l) :
    Calls Try.prog 7 #[.pointer (some ⟨p, 0, none⟩), .slice B n cb] w fun e w' => e = .returned (.int .i64 (sendE most L l)) ∧ KS w0 p most (sendL most L l) T A c xs w' := by
  obtain ⟨F, h1, h2, h3, h4, h5⟩ := h
  exact (send_any F p most L w h1 B l n cb hn hB).mono fun e w' ⟨he, F', k1, k2, k3⟩ => ⟨he, KS.turn h2 h3 h4 h5 k1 k2 k3⟩
def GotK (w0 : World) (p most : Nat) (T : TypeId) (A : Option Addr) (c : Nat) (xs : List Value) (w : World) (L : List (List UInt8)) (v : Option (List UInt8)) (e : Ending) (w' : World) : Prop :=
  ∃ B cb, e = .returned (.tuple #[.slice B (v.getD []).length cb, .bool v.isSome]) ∧ Mem.Own w' w.heap.size 5 B cb ((v.getD []).map u8v) ∧ KS w0 p most L T A c xs w'
theorem takeK (i : Int) : Calls Try.prog 8 #[.pointer (some ⟨p, 0, none⟩), .int .i64 i] w (GotK w0 p most T A c xs w (if (atV L i).isSome then L.eraseIdx i.toNat else L) (atV L i)) := by
  obtain ⟨F, h1, h2, h3, h4, h5⟩ := h
  exact (take_any F p most L w h1 i).mono fun e w' ⟨B, cb, he, k1, k2, k3⟩ => ⟨B, cb, he, k1, KS.turn h2 h3 h4 h5 k2 (fun _ h => .inl h) k3⟩
end
theorem takeK_some {w0 w : World} {p most : Nat} {L : List (List UInt8)} {T : TypeId} {A : Option Addr} {c : Nat} {xs : List Value} (h : KS w0 p most L T A c xs w) (i : Nat) (v : List UInt8) (hv : L[i]? = some v) : Calls Try.prog 8 #[.pointer (some ⟨p, 0, none⟩), .int .i64 (i : Int)] w (GotK w0 p most T A c xs w (L.eraseIdx i) (some v)) := by
  have := takeK h (i : Int)
  rw [atV_nat, hv] at this
  exact this
/-- Message j. -/
def mb (k j : Nat) : List UInt8 := [UInt8.ofNat j, UInt8.ofNat k]
def iv (j : Nat) : Value := .int .i64 (j : Int)
theorem u8n {j : Nat} (h : j < 256) : (UInt8.ofNat j).toNat = j := by rw [UInt8.toNat_ofNat']; exact Nat.mod_eq_of_lt h
theorem mb_sum (k : Nat) : ∀ ls : List Nat, ((ls.map (mb k)).map List.length).sum = 2 * ls.length
  | [] => rfl
  | a :: r => by have := mb_sum k r; simp [mb] at this ⊢; omega
theorem mb_send (k j : Nat) (ls : List Nat) (h : ls.length ≤ 100) : sendE 200 (ls.map (mb k)) (mb k j) = 0 := by
  unfold sendE
  rw [if_neg (by simp [mb]), if_neg (by rw [mb_sum]; simp [mb]; omega)]
theorem mb_sendL (k j : Nat) (ls : List Nat) (h : ls.length ≤ 100) : sendL 200 (ls.map (mb k)) (mb k j) = (ls ++ [j]).map (mb k) := by
  unfold sendL; rw [mb_send k j ls h, if_pos rfl, List.map_append]; rfl
theorem build2 (W : World) (u v : Int) : (Instr.buildSlice 22 2 #[(0, .int .u8 u), (1, .int .u8 v)]).run Try.prog W = .ok (.slice (some ⟨W.heap.size, 0, none⟩) 2 2) (W.alloc (.cells #[.int .u8 u, .int .u8 v] 5)) := by kernel_rfl
theorem mb_new (w : World) (k j : Nat) (hk : k < 256) (hj : j < 256) : Bytes (w.alloc (.cells #[.int .u8 (j : Int), .int .u8 (k : Int)] 5)) (w.alloc (.cells #[.int .u8 (j : Int), .int .u8 (k : Int)] 5)).heap.size (some ⟨w.heap.size, 0, none⟩) (mb k j) :=
  Bytes.new w _ 5 (0, 0) _ (by simp [mb, u8v, u8n hk, u8n hj]) _ (by simp)
theorem intinfo : (Try.prog.info? 3).map (fun i => (i.zero, i.size, i.bytes)) = some (some (.int .i64 0), 1, 8) := by kernel_rfl
set_option maxRecDepth 100000 in
set_option maxHeartbeats 16000000 in
theorem keeps_any (w : World) (cc : UInt8) (A : Option Addr) (l : List UInt8) (cl : Nat) (hcl : l.length ≤ cl) (hmx : cl ≤ maxLen) (hA : Bytes w w.heap.size A l) :
    Calls Try.prog 3 #[.int .u8 (cc.toNat : Int), .slice A l.length cl] w fun e w' => e = .returned (.bool true) ∧ Below w.heap.size w w' := by
  obtain ⟨i0, hi0, hz0, hz1, hz2⟩ := info_parts intinfo
  obtain ⟨k, hk⟩ : ∃ k, cc.toNat % 101 = k := ⟨_, rfl⟩
  have hkt : (cc.toNat : Int).tmod 101 = (k : Int) := by rw [Int.tmod_eq_emod_of_nonneg (by omega), ← hk]; simp
  have hk2 : (k : Int) ≤ 100 := by omega
  have hk0 : (0 : Int) ≤ (k : Int) := by omega
  have hc2 : (cc.toNat : Int) ≤ 255 := by have := cc.toNat_lt; omega
  have hc0 : (0 : Int) ≤ (cc.toNat : Int) := by omega
  obtain ⟨n, hn⟩ : ∃ n, l.length = n := ⟨_, rfl⟩
  rw [hn] at hcl ⊢
  have hnm : (n : Int) ≤ 9223372036854775807 := by unfold maxLen at hmx; omega
  have HA := Lib.hid hA
  have HN := Lib.hid hn
  have HZ := Lib.hid (And.intro hi0 (And.intro hz0 (And.intro hz1 hz2)))
  clear hA hn hk hcl hmx hi0 hz0 hz1 hz2
  go_enter Try.func3, Try.ntmps3
  go_wp2_with fail
  refine (newS _ 200 200 rfl).mono ?_
  rintro e w1 ⟨rfl, h⟩
  have H1 := Lib.hid h
  clear h
  go_wp2_with fail
  go_loopw [7, 8] (fun s i wr => ∃ (j : Nat) (B : Option Addr) (d : Nat), i = .int .i64 (j : Int) ∧ s = .slice B j d ∧ j ≤ k ∧ KS w w.heap.size 200 ((List.range j).map (mb k)) 3 B d ((List.range j).map iv) wr) (fun _ i _ => k - (intOf i).toNat)
  case atStart => exact ⟨0, none, 0, rfl, rfl, Nat.zero_le _, KS.start H1.out⟩
  case round =>
    obtain ⟨j, B, d, rfl, rfl, hj, h⟩ := hrel
    have HR := Lib.hid h
    clear h H1
    obtain ⟨wo, rfl⟩ : ∃ wo : World, wo = wr := ⟨_, rfl⟩
    by_cases hjk : j < k
    · have hji : (j : Int) < (k : Int) := by omega
      have hj0 : (0 : Int) ≤ (j : Int) := by omega
      have hwj : IntKind.u8.wrap (j : Int) = (j : Int) := IntWalk.u8_in _ (by omega)
      have hwk : IntKind.u8.wrap (k : Int) = (k : Int) := IntWalk.u8_in _ (by omega)
      have hbd := build2 wo (j : Int) (k : Int)
      have HL := Lib.hid (mb_new wo k j (by omega) (by omega))
      have HK2 := Lib.hid (HR.out.keep (nextA (Mem.start wo) (.cells #[.int .u8 (j : Int), .int .u8 (k : Int)] 5)))
      have HJ := Lib.hid (show (List.range j).length ≤ 100 from by rw [List.length_range]; omega)
      go_wp2_with fail
      refine (sendK HK2.out _ (mb k j) 2 2 rfl HL.out).mono ?_
      rintro e w2 ⟨rfl, h⟩
      rw [mb_send k j _ HJ.out]
      rw [mb_sendL k j _ HJ.out, ← List.range_succ] at h
      have H2 := Lib.hid h
      have HCO := Lib.hid (cells_one w2 (.int .i64 (j : Int)) 3 (w2.heap.size + 1) (by omega))
      have HJL := Lib.hid (show j = ((List.range j).map iv).length from by rw [List.length_map, List.length_range])
      clear h hbd hwj hwk
      obtain ⟨hi0, hz0, hz1, hz2⟩ := HZ.out
      go_wp2_with ((with_reducible show wpList _ _ _ ((⟨some 36, _, _, _, _, _⟩ : Oper) :: _) _ _); refine wpList_app _ rfl _ _ _ rfl w.heap.size 3 i0 _ 8 Try.underlying25 hi0 hz0 hz1 hz2 rfl B d j ((List.range j).map iv) rfl HJL.out (H2.out.own.alloc _) (w2.heap.size + 1) _ _ 1 [.int .i64 (j : Int)] rfl rfl HCO.out (by simp [Value.oneCell']) (by rw [← HJL.out]; simp [maxLen]; omega) (by rw [← HJL.out]; simp; omega) (by have := H2.out.below.size; simp; omega) (j + 1) rfl ?_; intro A2 c2 w3 ho3 _ hg3 hA3; rw [World.size_alloc] at hA3; have H3 := Lib.hid (show KS w w.heap.size 200 ((List.range (j + 1)).map (mb k)) 3 A2 c2 ((List.range (j + 1)).map iv) w3 from H2.out.row (by rw [List.range_succ, List.map_append]; exact ho3) (((Fr.refl _ w2).alloc (.cells #[.int .i64 (j : Int)] 3)).trans (Fr.grown (S := fun k => B = some ⟨k, 0, none⟩) hg3 (fun k hk => rowK H2.out.own hk)) (fun _ _ h => h)) (hA3.imp id (fun e g hg => by rw [e] at hg; injection hg with hg; injection hg with hg; omega))); clear ho3 hg3 hA3)
      go_roundw
      case rel => exact ⟨j + 1, A2, c2, by simp, rfl, hjk, H3.out⟩
      case measure => simp [intOf]; omega
    · obtain rfl : k = j := by omega
      go_wp2_with fail
      go_loopw [7, 9] (fun s i wr => ∃ (j : Nat) (ls : List Nat) (B : Option Addr) (d : Nat), i = .int .i64 (j : Int) ∧ s = .slice B ls.length d ∧ j ≤ n ∧ (∀ x ∈ ls, x ≤ 100) ∧ ls.length ≤ 100 ∧ KS w w.heap.size 200 (ls.map (mb k)) 3 B d (ls.map iv) wr) (fun _ i _ => n - (intOf i).toNat)
      case atStart => exact ⟨0, List.range k, B, d, rfl, by rw [List.length_range], Nat.zero_le _, fun x hx => by have := List.mem_range.1 hx; omega, by rw [List.length_range]; omega, HR.out⟩
      case round =>
        obtain ⟨j, ls, B, d, rfl, rfl, hjn, hls, hll, h⟩ := hrel
        have HR2 := Lib.hid h
        have HLS := Lib.hid (And.intro hls hll)
        clear h HR hls
        obtain ⟨wp, rfl⟩ : ∃ wp : World, wp = wr := ⟨_, rfl⟩
        obtain ⟨m, hm⟩ : ∃ m, ls.length = m := ⟨_, rfl⟩
        have HM := Lib.hid hm
        rw [hm] at hll ⊢
        clear hm
        by_cases hjl : j < n
        · have hji : (j : Int) < (n : Int) := by omega
          have hj0 : (0 : Int) ≤ (j : Int) := by omega
          by_cases hm0 : 0 < m
          · have hmi : (0 : Int) < (m : Int) := by omega
            have hmb : ((m : Int) == 0) = false := by simp; omega
            obtain ⟨b, off, rfl, hbw, hc⟩ := HA.out.at_ (k := j) (by rw [HN.out]; exact hjl)
            generalize l[j]'(by rw [HN.out]; exact hjl) = t at hc
            have hc1 := (HR2.out.below.cell (p := ⟨b, off + j, none⟩) hbw).trans hc
            have ht := t.toNat_lt
            obtain ⟨a, ha⟩ : ∃ a, t.toNat % m = a := ⟨_, rfl⟩
            have hat : (t.toNat : Int).tmod (m : Int) = (a : Int) := by rw [Int.tmod_eq_emod_of_nonneg (by omega), ← ha]; simp
            have ham : a < m := by rw [← ha]; exact Nat.mod_lt _ hm0
            have ht2 : (t.toNat : Int) ≤ 255 := by omega
            have ht0 : (0 : Int) ≤ (t.toNat : Int) := by omega
            obtain ⟨x, hx⟩ : ∃ x, ls[a]? = some x := ⟨ls[a]'(by rw [HM.out]; exact ham), List.getElem?_eq_getElem _⟩
            have hx100 := HLS.out.1 x (List.mem_of_getElem? hx)
            have HX := Lib.hid (And.intro hx hx100)
            clear hc ha hx
            go_wp2_with fail
            refine (takeK_some HR2.out a (mb k x) (by rw [List.getElem?_map, HX.out.1]; rfl)).mono ?_
            rintro e w5 ⟨B5, c5, rfl, ho5, h5⟩
            rw [← map_erase] at h5
            rw [show ((some (mb k x)).getD []).length = 2 from rfl]
            obtain ⟨g5, rfl, _, _, hd0, _⟩ := ho5.at_ (k := 0) (by simp [mb])
            obtain ⟨g5', hg5, _, _, hd1, _⟩ := ho5.at_ (k := 1) (by simp [mb])
            injection hg5 with hg5; injection hg5 with hg5; subst hg5
            have hd0' : w5.cell? ⟨g5, 0, none⟩ = some (.int .u8 (x : Int)) := by rw [hd0]; simp [mb, u8v, u8n (show x < 256 by omega)]
            have hd1' : w5.cell? ⟨g5, 1, none⟩ = some (.int .u8 (k : Int)) := by rw [hd1]; simp [mb, u8v, u8n (show k < 256 by omega)]
            obtain ⟨gB, rfl, _, _, hlc, _⟩ := h5.own.at_ (k := a) (by rw [List.length_map, HM.out]; exact ham)
            have hlc' : w5.cell? ⟨gB, a, none⟩ = some (.int .i64 (x : Int)) := by
              rw [hlc, List.getElem_map]; have := HX.out.1; rw [List.getElem?_eq_getElem (by rw [HM.out]; exact ham)] at this; injection this with this; rw [this]; rfl
            have hwx : IntKind.i64.wrap (x : Int) = (x : Int) := IntWalk.i64_in _ (by omega)
            have hwk2 : IntKind.i64.wrap (k : Int) = (k : Int) := IntWalk.i64_in _ (by omega)
            have hai : (a : Int) < (m : Int) := by omega
            have ha0 : (0 : Int) ≤ (a : Int) := by omega
            have H5 := Lib.hid h5
            clear hd0 hd1 hlc ho5 h5 hx100
            go_wp2_with fail
            go_quiet (fail)
            clear hd0' hd1' hlc'
            have H6 := Lib.hid (H5.out.keep (nextN (Mem.start w5) nq))
            generalize w5.drewN nq = w6 at *
            have hle := H6.out.own.le
            have hmax := H6.out.own.max
            unfold maxLen at hmax
            rw [List.length_map, HM.out] at hle
            obtain ⟨A0, hA0, hsrc⟩ : ∃ A0 : Addr, (if d = a + 1 then (some ⟨gB, 0, none⟩ : Option Addr) else some ⟨gB, a + 1, none⟩) = some A0 ∧ Hid (Cells w6 w6.heap.size (some A0) ((ls.map iv).drop (a + 1))) := by
              by_cases hc : d = a + 1
              · refine ⟨⟨gB, 0, none⟩, by simp [hc], ?_⟩
                have : (ls.map iv).drop (a + 1) = [] := List.drop_eq_nil_of_le (by rw [List.length_map, HM.out]; omega)
                rw [this]; exact Cells.nil
              · refine ⟨⟨gB, a + 1, none⟩, by simp [hc], ?_⟩
                have := H6.out.own.cells.drop (a + 1)
                rwa [Nat.zero_add] at this
            obtain ⟨r, hr⟩ : ∃ r, m - (a + 1) = r := ⟨_, rfl⟩
            have HC := Lib.hid (And.intro (H6.out.own.cells.take a) hsrc.out)
            have HY := Lib.hid (show a = ((ls.map iv).take a).length ∧ r = ((ls.map iv).drop (a + 1)).length from ⟨by rw [List.length_take, List.length_map, HM.out]; omega, by rw [List.length_drop, List.length_map, HM.out]; omega⟩)
            have HS := Lib.hid (show (∀ u ∈ (ls.map iv).take a, u.oneCell' = true) ∧ (∀ u ∈ (ls.map iv).drop (a + 1), u.oneCell' = true) from ⟨fun u hu => by obtain ⟨_, _, rfl⟩ := List.mem_map.1 (List.mem_of_mem_take hu); rfl, fun u hu => by obtain ⟨_, _, rfl⟩ := List.mem_map.1 (List.mem_of_mem_drop hu); rfl⟩)
            have h3 : (m : Int) ≤ (d : Int) := by omega
            have h4 : (d : Int) ≤ 9223372036854775807 := by omega
            have h6 : (a : Int) + 1 ≤ (m : Int) := by omega
            have h7 : (0 : Int) ≤ (a : Int) + 1 := by omega
            have h8 : (a : Int) ≤ (d : Int) := by omega
            have hw1 : IntKind.i64.wrap ((a : Int) + 1) = (a : Int) + 1 := IntWalk.i64_in _ (by omega)
            clear hsrc hle hmax hc1
            obtain ⟨hi0, hz0, hz1, hz2⟩ := HZ.out
            go_wp2_with (first
              | ((with_reducible show wpList _ _ _ ((⟨some 92, _, _, _, _, _⟩ : Oper) :: _) _ _); refine wpList_app _ rfl _ _ _ rfl w6.heap.size 3 i0 _ 8 Try.underlying25 hi0 hz0 hz1 hz2 rfl none 0 0 [] rfl rfl Mem.Own.nil w6.heap.size (some ⟨gB, 0, none⟩) d a ((ls.map iv).take a) rfl HY.out.1 HC.out.1 HS.out.1 (by rw [← HY.out.1]; simp [maxLen]; omega) (by rw [← HY.out.1]; simp; omega) (Nat.le_refl _) a (by simp) ?_; intro A1 c1 w7 ho7 hb7 _ hA7; have HO7 := Lib.hid (And.intro ho7 (And.intro hb7 hA7)); clear ho7 hb7 hA7)
              | ((with_reducible show wpList _ _ _ ((⟨some 98, _, _, _, _, _⟩ : Oper) :: _) _ _); refine wpList_app _ rfl _ _ _ rfl w6.heap.size 3 i0 _ 8 Try.underlying25 hi0 hz0 hz1 hz2 rfl A1 c1 a ((ls.map iv).take a) rfl HY.out.1 (by have := HO7.out.1; rwa [List.nil_append] at this) w6.heap.size (some A0) (d - (a + 1)) r ((ls.map iv).drop (a + 1)) rfl HY.out.2 (HC.out.2.below HO7.out.2.1) HS.out.2 (by rw [← HY.out.1, ← HY.out.2]; simp [maxLen]; omega) (by rw [← HY.out.1, ← HY.out.2]; omega) HO7.out.2.1.size (a + r) rfl ?_; intro A2 c2 w8 ho8 hb8 _ hA8; have HO8 := Lib.hid (And.intro ho8 (HO7.out.2.1.trans hb8)); clear ho8 hb8 hA8))
            have e0 : (ls.eraseIdx a).map iv = (ls.map iv).take a ++ (ls.map iv).drop (a + 1) := by rw [map_erase, List.eraseIdx_eq_take_drop_succ]
            have e1 : (ls.eraseIdx a).length = a + r := by have := congrArg List.length e0; rw [List.length_map, List.length_append, ← HY.out.1, ← HY.out.2] at this; exact this
            have H8 := Lib.hid (show KS w w.heap.size 200 ((ls.eraseIdx a).map (mb k)) 3 A2 c2 ((ls.eraseIdx a).map iv) w8 from H6.out.row (by rw [e0]; exact HO8.out.1.down H6.out.below.size) (Fr.quiet HO8.out.2) (.inr fun g' hg' => by
              rcases HO8.out.1.form with ⟨e, _⟩ | ⟨g2, e, h2, _⟩
              · rw [e] at hg'; cases hg'
              · rw [e] at hg'; injection hg' with hg'; injection hg' with hg'; omega))
            have HE := Lib.hid (show (ls.eraseIdx a).length = a + r ∧ (∀ x ∈ ls.eraseIdx a, x ≤ 100) from ⟨e1, fun x hx => HLS.out.1 x (List.mem_of_mem_eraseIdx hx)⟩)
            generalize ls.eraseIdx a = ls2 at *
            obtain ⟨s, hs⟩ : ∃ s, a + r = s := ⟨_, rfl⟩
            rw [hs] at HE ⊢
            have hs100 : (s : Int) ≤ 100 := by omega
            clear e0 e1 HX hA0 hs
            refine (allS H8.out.ns).mono ?_
            rintro e w9 ⟨A9, c9, ns, rfl, hrw, hmp, hb9⟩
            rw [List.length_map, HE.out.1]
            have HRW := Lib.hid (And.intro hrw hmp)
            have H9 := Lib.hid (H8.out.keep hb9)
            clear hrw hmp hb9
            have HB9 := Lib.hid (nextN (Mem.start w9) 0)
            go_wp2_with fail
            go_loopw [15] (fun v wr => ∃ i q : Nat, v = .int .i64 (i : Int) ∧ i ≤ s ∧ wr = w9.drewN q) (fun v _ => s - (intOf v).toNat)
            case atStart => exact ⟨0, 0, rfl, Nat.zero_le _, rfl⟩
            case round =>
              obtain ⟨i, q, rfl, hi, rfl⟩ := hrel
              by_cases hir : i < s
              · obtain ⟨y, hy⟩ : ∃ y, ls2[i]? = some y := ⟨ls2[i]'(by rw [HE.out.1]; exact hir), List.getElem?_eq_getElem _⟩
                have hy100 := HE.out.2 y (List.mem_of_getElem? hy)
                obtain ⟨nm, hnm, hnl⟩ := map_l HRW.out.2 (i := i) (l := mb k y) (by rw [List.getElem?_map, hy]; rfl)
                obtain ⟨gL, rfl, _, hcl, hom⟩ := HRW.out.1.at_ hnm
                unfold Ms.v at hcl
                rw [hnl] at hcl hom
                rw [show (mb k y).length = 2 from rfl] at hcl
                obtain ⟨gn, hgn, _, _, hcn, _⟩ := hom.at_ (k := 0) (by simp [mb])
                rw [hgn] at hcl
                have hcn' : w9.cell? ⟨gn, 0, none⟩ = some (.int .u8 (y : Int)) := by rw [hcn]; simp [mb, u8v, u8n (show y < 256 by omega)]
                obtain ⟨g2, rfl, _, _, hc2, _⟩ := H9.out.own.at_ (k := i) (by rw [List.length_map, HE.out.1]; exact hir)
                have hc2' : w9.cell? ⟨g2, i, none⟩ = some (.int .i64 (y : Int)) := by
                  rw [hc2, List.getElem_map]; rw [List.getElem?_eq_getElem (by rw [HE.out.1]; exact hir)] at hy; injection hy with hy; rw [hy]; rfl
                have hwy : IntKind.i64.wrap (y : Int) = (y : Int) := IntWalk.i64_in _ (by omega)
                have hii : (i : Int) < (s : Int) := by omega
                have hi0 : (0 : Int) ≤ (i : Int) := by omega
                clear hy hnm hnl hom hgn hcn hc2
                go_wp2_with fail
                go_quiet (fail)
                go_wp2_with fail
                go_roundw
                case rel => exact ⟨i + 1, _, by simp, hir, rfl⟩
                case measure => simp [intOf]; omega
              · obtain rfl : s = i := by omega
                go_wp2_with fail
                go_roundw
                case rel => exact ⟨j + 1, ls2, A2, c2, by simp, by rw [HE.out.1], hjl, HE.out.2, by rw [HE.out.1]; omega, H9.out.keep (nextN (Mem.start w9) q)⟩
                case measure => simp [intOf]; omega
          · obtain rfl : m = 0 := by omega
            go_wp2_with fail
            refine (lenS HR2.out.ns).mono ?_
            rintro e w' ⟨rfl, rfl⟩
            rw [List.length_map, HM.out]
            go_wp2_with fail
            refine (works_any _).mono ?_
            rintro e w9 ⟨rfl, hb⟩
            have H9 := Lib.hid (HR2.out.keep hb)
            clear hb
            go_wp2_with fail
            go_ret
            exact ⟨rfl, H9.out.below⟩
        · obtain rfl : n = j := by omega
          go_wp2_with fail
          refine (lenS HR2.out.ns).mono ?_
          rintro e w' ⟨rfl, rfl⟩
          rw [List.length_map, HM.out]
          go_wp2_with fail
          refine (works_any _).mono ?_
          rintro e w9 ⟨rfl, hb⟩
          have H9 := Lib.hid (HR2.out.keep hb)
          clear hb
          go_wp2_with fail
          go_ret
          exact ⟨rfl, H9.out.below⟩
end Go.Proofs.Ytdgaicnnaidkkaa.NtW
