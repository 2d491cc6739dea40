/- The law's helper tells. -/
import Derived.Test.YtdgaicnnaidkkaaNtDo
namespace Go.Proofs.Ytdgaicnnaidkkaa.NtW
open Go.RowKit Go.Shelf Mem Rng
set_option linter.unusedVariables false

theorem u8_mod (x : UInt8) : ((x + 1).toNat : Int) = ((x.toNat : Int) + 1) % 256 := by
  rw [UInt8.toNat_add]; simp
theorem size_set (w : World) (p : Addr) (v : Value) : (w.setCell p v).heap.size = w.heap.size := by simp [World.setCell]
/-- The two nets hold the same; from block b on all that is new is the law's own. -/
def UL (w0 : World) (p q most : Nat) (L : List (List UInt8)) (b : Nat) (w : World) : Prop := LS w0 p q most L L (fun k => b ≤ k ∧ k < w.heap.size) w ∧ b ≤ w.heap.size
section
variable {w0 w w' : World} {p q most b : Nat} {L : List (List UInt8)}
theorem UL.keep (h : UL w0 p q most L b w) (hb : Below w.heap.size w w') : UL w0 p q most L b w' :=
  ⟨(h.1.more hb (Y := fun k => w.heap.size ≤ k ∧ k < w'.heap.size) (fun _ h => h)).less (fun k hk => (Nat.lt_or_ge k w.heap.size).elim (fun h => .inl ⟨hk.1, h⟩) (fun h => .inr ⟨h, hk.2⟩)), Nat.le_trans h.2 hb.size⟩
theorem UL.set (h : UL w0 p q most L b w) {g : Nat} (h1 : b ≤ g) (h2 : g < w.heap.size) (j : Nat) (v : Value) : UL w0 p q most L b (w.setCell ⟨g, j, none⟩ v) := by
  refine ⟨?_, by rw [size_set]; exact h.2⟩
  rw [size_set]
  exact h.1.other ((Fr.refl _ w).setCell (p := ⟨g, j, none⟩) (fun _ => ⟨h1, h2⟩) v)
theorem UL.start (h : LS w0 p q most L L (fun _ => False) w) (hb : Below w.heap.size w w') : UL w0 p q most L w.heap.size w' :=
  ⟨(h.more hb (Y := fun k => w.heap.size ≤ k ∧ k < w'.heap.size) (fun _ h => h)).less (fun k hk => .inr hk), hb.size⟩
theorem UL.ls (h : UL w0 p q most L b w) : LS w0 p q most L L (fun _ => False) w := h.1.less fun _ h => h.elim
end
section
variable {base : Nat} {A : Option Addr} {c : Nat} {ns : List Ms} {W : World}
theorem apart_at (h : RowsN base A c ns W) {i k : Nat} {a b : Ms} (hi : ns[i]? = some a) (hk : ns[k]? = some b) (hne : i ≠ k) : ∀ g, a.A = some ⟨g, 0, none⟩ → b.A ≠ some ⟨g, 0, none⟩ := by
  have hp := List.pairwise_iff_getElem.1 h.apart
  obtain ⟨hi1, hi2⟩ := List.getElem?_eq_some_iff.1 hi
  obtain ⟨hk1, hk2⟩ := List.getElem?_eq_some_iff.1 hk
  rcases Nat.lt_or_gt_of_ne hne with hl | hl
  · have := hp i k hi1 hk1 hl
    rwa [hi2, hk2] at this
  · intro g hg e
    have := hp k i hk1 hi1 hl g (by rw [hk2]; exact e)
    rw [hi2] at this
    exact this hg
/-- A byte of row i made greater. -/
theorem RowsN.spoil (h : RowsN base A c ns W) {i : Nat} {x : Ms} (hn : ns[i]? = some x) {j : Nat} (hj : j < x.l.length) :
    ∃ g, x.A = some ⟨g, 0, none⟩ ∧ base ≤ g ∧ g < W.heap.size ∧ W.cell? ⟨g, j, none⟩ = some (.int .u8 ((x.l[j]).toNat : Int)) ∧ W.frozen? ⟨g, j, none⟩ = false ∧
      RowsN base A c (ns.set i ⟨x.A, x.l.set j (x.l[j] + 1), x.c⟩) (W.setCell ⟨g, j, none⟩ (.int .u8 ((x.l[j] + 1).toNat : Int))) := by
  have hx := h.rows x (List.mem_of_getElem? hn)
  obtain ⟨g, e, hb, hlt, hc, hz, hu⟩ := hx.at_ (k := j) (by simpa using hj)
  have hil := (List.getElem?_eq_some_iff.1 hn).1
  have hix := (List.getElem?_eq_some_iff.1 hn).2
  refine ⟨g, e, hb, hlt, by simpa [u8v] using hc, hz, ?_, ?_, ?_⟩
  · have : (ns.set i ⟨x.A, x.l.set j (x.l[j] + 1), x.c⟩).map Ms.v = ns.map Ms.v := by
      rw [List.map_set]
      apply List.ext_getElem?
      intro k
      rw [List.getElem?_set]
      by_cases hk : i = k
      · subst hk
        rw [if_pos rfl, if_pos (by rw [List.length_map]; exact hil), List.getElem?_map, hn]
        simp [Ms.v]
      · rw [if_neg hk]
    rw [this]
    exact h.own.set_far (fun g' hg' (e2 : g = g') => own_apart hx h.own (by decide) g e (by rw [e2]; exact hg'))
  · intro n' hn'
    obtain ⟨k, hk⟩ := List.getElem?_of_mem hn'
    rw [List.getElem?_set] at hk
    by_cases hik : i = k
    · subst hik
      rw [if_pos rfl, if_pos hil] at hk
      injection hk with hk
      subst hk
      dsimp only
      rw [List.map_set]
      exact hu _
    · rw [if_neg hik] at hk
      exact (h.rows n' (List.mem_of_getElem? hk)).set_far (fun g' hg' (e2 : g = g') => apart_at h hn hk hik g e (by rw [e2]; exact hg'))
  · have hm : (ns.set i ⟨x.A, x.l.set j (x.l[j] + 1), x.c⟩).map Ms.A = ns.map Ms.A := by
      rw [List.map_set]
      apply List.ext_getElem?
      intro k
      rw [List.getElem?_set]
      by_cases hk : i = k
      · subst hk
        rw [if_pos rfl, if_pos (by rw [List.length_map]; exact hil), List.getElem?_map, hn]
        rfl
      · rw [if_neg hk]
    have h1 : (ns.map Ms.A).Pairwise fun a b => ∀ g, a = some ⟨g, 0, none⟩ → b ≠ some ⟨g, 0, none⟩ := List.pairwise_map.2 h.apart
    rw [← hm] at h1
    exact List.pairwise_map.1 h1
end
/-- Of the rows those from i on are still as the nets hold them. -/
def Left (ns : List Ms) (L : List (List UInt8)) (z : Int) : Prop := ns.length = L.length ∧ ∀ j : Nat, z ≤ (j : Int) → (ns[j]?).map Ms.l = L[j]?
theorem Left.next {ns : List Ms} {L : List (List UInt8)} {z : Int} (h : Left ns L z) : Left ns L (z + 1) := ⟨h.1, fun j hj => h.2 j (by omega)⟩
theorem Left.set {ns : List Ms} {L : List (List UInt8)} {a : Nat} (h : Left ns L (a : Int)) (x : Ms) : Left (ns.set a x) L ((a : Int) + 1) :=
  ⟨by rw [List.length_set]; exact h.1, fun j hj => by rw [List.getElem?_set_ne (by omega)]; exact h.2 j (by omega)⟩
theorem set_same {ns : List Ms} {a : Nat} {x : Ms} (h : ns[a]? = some x) : ns.set a ⟨x.A, x.l, x.c⟩ = ns := by
  apply List.ext_getElem?
  intro k
  rw [List.getElem?_set]
  by_cases hk : a = k
  · subst hk
    rw [if_pos rfl, if_pos (List.getElem?_eq_some_iff.1 h).1, h]
  · rw [if_neg hk]
set_option maxRecDepth 100000 in
set_option maxHeartbeats 16000000 in
theorem tells_any (w0 w : World) (p q most : Nat) (L : List (List UInt8)) (h : LS w0 p q most L L (fun _ => False) w) :
    Calls Try.prog 15 #[.pointer (some ⟨p, 0, none⟩), .pointer (some ⟨q, 0, none⟩)] w (SameOk w0 p q most) := by
  have H0 := Lib.hid h
  clear h
  obtain ⟨n, hn⟩ : ∃ n, L.length = n := ⟨_, rfl⟩
  have HN := Lib.hid hn
  clear hn
  go_enter Try.func15, Try.ntmps15
  go_wp2_with fail
  go_loopw [5] (fun t wr => ∃ k : Nat, t = .int .i64 (k : Int) ∧ k ≤ 2 ∧ LS w0 p q most L L (fun _ => False) wr) (fun t _ => 2 - (intOf t).toNat)
  case atStart => exact ⟨0, rfl, by omega, H0.out⟩
  case round =>
    obtain ⟨k, rfl, hk, h⟩ := hrel
    have H1 := Lib.hid h
    clear h H0
    obtain ⟨w1, rfl⟩ : ∃ w1 : World, w1 = wr := ⟨_, rfl⟩
    by_cases hk2 : k < 2
    · have hki : (k : Int) < 2 := by omega
      have hk0 : (0 : Int) ≤ (k : Int) := by omega
      go_wp2_with fail
      refine (allL' H1.out).mono ?_
      rintro e w2 ⟨A6, c6, ns, rfl, hrows, hmap, hb⟩
      rw [HN.out]
      obtain ⟨Aq, cq, hq, hqz, hlen⟩ := (H1.out.keep hb).rcell
      rw [HN.out] at hq hlen
      have hni : (n : Int) ≤ 100000 := by omega
      have hn0 : (0 : Int) ≤ (n : Int) := by omega
      have H2 := Lib.hid (And.intro (UL.start H1.out hb) hrows)
      have HLeft := Lib.hid (show Left ns L (-1) from ⟨by rw [← hmap, List.length_map], fun j _ => by rw [← hmap, List.getElem?_map]⟩)
      have HL := Lib.hid (show ∀ j, Calls Try.prog 10 #[.pointer (some ⟨p, 0, none⟩)] (w2.drewN j) fun e w' => e = .returned (.int .i64 (n : Int)) ∧ w' = w2.drewN j from fun j => by rw [← HN.out]; exact lenL' (H2.out.1.keep (nextN (Mem.start w2) j)).1)
      clear hrows hmap hb hqz hlen
      go_wp2_with fail
      go_quiet ((go_at_call 10; exact Calls.quiet_of_same (HL.out _)))
      go_wp2_with fail
      clear hq
      go_loopw [7] (fun i wr => ∃ (z : Int) (ns : List Ms), i = .int .i64 z ∧ -1 ≤ z ∧ z ≤ (n : Int) + 1 ∧ Left ns L z ∧ UL w0 p q most L w1.heap.size wr ∧ RowsN w1.heap.size A6 c6 ns wr) (fun i _ => ((n : Int) + 1 - intOf i).toNat)
      case atStart => exact ⟨-1, ns, rfl, by omega, by omega, HLeft.out, H2.out.1.keep (nextN (Mem.start w2) _), H2.out.2.keep (nextN (Mem.start w2) _)⟩
      case round =>
        obtain ⟨z, ns, rfl, hz0, hz1, hleft, hul, hrows⟩ := hrel
        have H3 := Lib.hid (And.intro hleft (And.intro hul hrows))
        clear hleft hul hrows H2 HLeft HL
        obtain ⟨w3, rfl⟩ : ∃ w3 : World, w3 = wr := ⟨_, rfl⟩
        obtain ⟨Aq, cq, hq, hqz, _⟩ := H3.out.2.1.1.rcell
        rw [HN.out] at hq
        by_cases hzn : z ≤ (n : Int)
        · by_cases hin : 0 ≤ z ∧ z < (n : Int)
          · obtain ⟨a, rfl⟩ : ∃ a : Nat, z = (a : Int) := ⟨z.toNat, by omega⟩
            have han : a < n := by omega
            obtain ⟨v, hv⟩ : ∃ v, L[a]? = some v := ⟨L[a]'(by rw [HN.out]; exact han), List.getElem?_eq_getElem _⟩
            obtain ⟨x, hx, hxl⟩ : ∃ x, ns[a]? = some x ∧ x.l = v := by
              have h1 := H3.out.1.2 a (Int.le_refl _)
              rw [hv] at h1
              cases hx : ns[a]? with
              | none => rw [hx] at h1; cases h1
              | some x => rw [hx] at h1; injection h1 with h1; exact ⟨x, rfl, h1⟩
            have hat : atV L (a : Int) = some v := by rw [atV_nat, hv]
            obtain ⟨g6, rfl, hg6, hc6, ho6⟩ := RowsN.at_ H3.out.2.2 hx
            unfold Ms.v at hc6
            rw [hxl] at hc6 ho6
            obtain ⟨m, hm⟩ : ∃ m, v.length = m := ⟨_, rfl⟩
            rw [hm] at hc6
            have hai : (a : Int) < (n : Int) := by omega
            have ha0 : (0 : Int) ≤ (a : Int) := by omega
            have HA := Lib.hid (show Calls Try.prog 16 #[.pointer (some ⟨p, 0, none⟩), .int .i64 (a : Int)] w3 (AtOk w3 (some v)) from by rw [← hat]; exact atL' H3.out.2.1.1 (a : Int))
            have HX := Lib.hid (And.intro hx (And.intro hxl (And.intro hat (And.intro hm ho6))))
            have hmm : (m : Int) ≤ 9223372036854775807 := by have h1 := ho6.le; have h2 := ho6.max; rw [List.length_map, hm] at h1; unfold maxLen at h2; omega
            clear hx hxl hat hm ho6 hv hin hz0 hz1
            go_wp2_with fail
            refine HA.out.mono ?_
            rintro e w4 ⟨B, c8, rfl, ho, hb⟩
            rw [show ((some v).getD []).length = v.length from rfl, show (some v).isSome = true from rfl, HX.out.2.2.2.1]
            have hc6' := cellB hb hc6
            have hcv1 := convB ho.bytes m c8 HX.out.2.2.2.1.symm
            have hcv2 := convB (HX.out.2.2.2.2.keep hb).bytes m x.c HX.out.2.2.2.1.symm
            have hq' := cellB hb hq
            have H4 := Lib.hid (And.intro ho hb)
            have HR := Lib.hid (show Calls Try.prog 27 #[.pointer (some ⟨q, 0, none⟩), .int .i64 (a : Int)] w4 (fun e w' => e = .returned (.tuple #[.string (str v), .bool true]) ∧ w4 = w') from by have := ratL' (H3.out.2.1.keep hb).1 (a : Int); rw [HX.out.2.2.1] at this; exact this)
            rw [show (some v).getD [] = v from rfl] at hcv1
            clear ho hb hc6 hq hqz
            go_wp2_with fail
            refine HR.out.mono ?_
            rintro e w' ⟨rfl, rfl⟩
            go_wp2_with fail
            clear hcv1 hcv2 hq'
            go_loopw [12] (fun i wr => ∃ (j : Nat) (ys : List UInt8), i = .int .i64 (j : Int) ∧ j ≤ m ∧ ys.length = m ∧ Mem.Own wr w3.heap.size 5 B c8 (ys.map u8v) ∧ Below w3.heap.size w3 wr) (fun i _ => m - (intOf i).toNat)
            case atStart => exact ⟨0, v, rfl, Nat.zero_le _, HX.out.2.2.2.1, H4.out.1, H4.out.2⟩
            case round =>
              obtain ⟨j, ys, rfl, hj, hys, ho, hb⟩ := hrel
              by_cases hjm : j < m
              · have hji : (j : Int) < (m : Int) := by omega
                have hj0 : (0 : Int) ≤ (j : Int) := by omega
                obtain ⟨g, rfl, hgb, hlt, hc, hfz, hset⟩ := ho.at_ (k := j) (by rw [List.length_map, hys]; exact hjm)
                rw [List.getElem_map] at hc
                have hset2 := hset (u8v (ys[j]'(by rw [hys]; exact hjm) + 1))
                rw [← List.map_set] at hset2
                generalize (ys[j]'(by rw [hys]; exact hjm)) = t at hc hset2
                have hc' : wr.cell? ⟨g, j, none⟩ = some (.int .u8 (t.toNat : Int)) := hc
                have hwt := u8_more t
                have HJ := Lib.hid (And.intro hys (And.intro hset2 (And.intro hb hgb)))
                clear hys hset hset2 ho hb hlt hc hgb
                go_wp2_with fail
                go_roundw
                case rel => exact ⟨j + 1, ys.set j (t + 1), rfl, hjm, by rw [List.length_set]; exact HJ.out.1, HJ.out.2.1, ((Fr.of_below HJ.out.2.2.1).setCell (p := ⟨g, j, none⟩) (fun _ => HJ.out.2.2.2) _).below (Nat.le_refl _) fun _ h => h⟩
                case measure => simp [intOf]; omega
              · obtain rfl : m = j := by omega
                have H5 := Lib.hid (And.intro (H3.out.2.1.keep hb) (H3.out.2.2.keep hb))
                clear hys ho hb hc6'
                go_wp2_with fail
                go_loopw [13] (fun i wr => ∃ (j : Nat) (ys : List UInt8), i = .int .i64 (j : Int) ∧ j ≤ m ∧ ys.length = m ∧ UL w0 p q most L w1.heap.size wr ∧ RowsN w1.heap.size (some ⟨g6, 0, none⟩) c6 (ns.set a ⟨x.A, ys, x.c⟩) wr) (fun i _ => m - (intOf i).toNat)
                case atStart => exact ⟨0, v, rfl, Nat.zero_le _, HX.out.2.2.2.1, H5.out.1, by rw [← HX.out.2.1, set_same HX.out.1]; exact H5.out.2⟩
                case round =>
                  obtain ⟨j, ys, rfl, hj, hys, hul, hrows⟩ := hrel
                  obtain ⟨w5, rfl⟩ : ∃ w5 : World, w5 = wr := ⟨_, rfl⟩
                  have hxs : (ns.set a ⟨x.A, ys, x.c⟩)[a]? = some ⟨x.A, ys, x.c⟩ := by rw [List.getElem?_set_self (List.getElem?_eq_some_iff.1 HX.out.1).1]
                  obtain ⟨g7, hg7, _, hc6, _⟩ := RowsN.at_ hrows hxs
                  injection hg7 with hg7; injection hg7 with hg7; subst hg7
                  unfold Ms.v at hc6
                  dsimp only at hc6
                  rw [hys] at hc6
                  by_cases hjm : j < m
                  · have hji : (j : Int) < (m : Int) := by omega
                    have hj0 : (0 : Int) ≤ (j : Int) := by omega
                    obtain ⟨g, hxA, hgb, hlt, hc, hfz, hset⟩ := hrows.spoil hxs (j := j) (by rw [hys]; exact hjm)
                    dsimp only at hxA hc hset
                    rw [hxA] at hc6
                    clear hxA
                    generalize (ys[j]'(by rw [hys]; exact hjm)) = t at hc hset
                    have hwt := u8_more t
                    have HT := Lib.hid (And.intro hc6 (And.intro hc hfz))
                    rw [List.set_set, u8_mod] at hset
                    have HJ := Lib.hid (And.intro hys (And.intro hset (And.intro hul (And.intro hgb hlt))))
                    clear hys hset hul hrows hgb hlt hc hfz hxs
                    go_wp2_with fail
                    clear hc6
                    --HELD tl21
                    refine wp_region_noPanic ?_
                    refine wp_heldG (fun w' => w'.cell? ⟨g6, a, none⟩ = some (.slice (some ⟨g, 0, none⟩) m x.c) ∧ w'.cell? ⟨g, j, none⟩ = some (.int .u8 (t.toNat : Int)) ∧ w'.frozen? ⟨g, j, none⟩ = false) [14] (by kernel_rfl) ?hs0 ?rg0
                    case hs0 =>
                      exact HT.out
                    case rg0 =>
                    intro hHeld
                    refine wpAnyG_pure (i := 0) (oi := { dst := some 106, op := Op.move (Operand.tmp 6), type := 30, pos := _, after := #[], guard := none }) (v := ?_) rfl (by kernel_rfl) (by kernel_rfl) (by kernel_rfl) (by kernel_rfl) (fun _ _ _ h => h) (Or.inl ⟨by rfl, ?_⟩) (fun _ => by assumption) ?_
                    rotate_left
                    · intro w hSw
                      try dsimp only at hSw
                      go_simp
                      try with_reducible rfl
                    try simp only [Act.put, List.setIfInBounds_toArray, List.set_cons_zero, List.set_cons_succ]
                    refine wpAnyG_pure (i := 1) (oi := { dst := some 107, op := Op.move (Operand.tmp 7), type := 3, pos := _, after := #[], guard := none }) (v := ?_) rfl (by kernel_rfl) (by kernel_rfl) (by kernel_rfl) (by kernel_rfl) (fun _ _ _ h => h) (Or.inl ⟨by rfl, ?_⟩) (fun _ => by assumption) ?_
                    rotate_left
                    · intro w hSw
                      try dsimp only at hSw
                      go_simp
                      try with_reducible rfl
                    try simp only [Act.put, List.setIfInBounds_toArray, List.set_cons_zero, List.set_cons_succ]
                    refine wpAnyG_pure (i := 2) (oi := { dst := some 108, op := Op.indexAddr 30 (Operand.tmp 106) (Operand.tmp 107), type := 0, pos := _, after := #[{ on := 0, ground := Ground.data }, { on := 1, ground := Ground.data }], guard := none }) (v := ?_) rfl (by kernel_rfl) (by kernel_rfl) (by kernel_rfl) (by kernel_rfl) (fun _ _ _ h => h) (Or.inl ⟨by rfl, ?_⟩) (fun _ => by assumption) ?_
                    rotate_left
                    · intro w hSw
                      try dsimp only at hSw
                      go_simp
                      try with_reducible rfl
                    try simp only [Act.put, List.setIfInBounds_toArray, List.set_cons_zero, List.set_cons_succ]
                    refine wpAnyG_take (i := 3) (oi := { dst := some 109, op := Op.load 22 (Operand.tmp 108), type := 22, pos := _, after := #[{ on := 2, ground := Ground.data }], guard := none }) (v := ?_) rfl (by kernel_rfl) (by kernel_rfl) (by kernel_rfl) (by kernel_rfl) (fun _ _ _ h => h) (Or.inl ⟨by rfl, ?_⟩) (by assumption) ?_
                    rotate_left
                    · intro w hSw
                      try dsimp only at hSw
                      go_simp
                      try with_reducible rfl
                    try simp only [Act.put, List.setIfInBounds_toArray, List.set_cons_zero, List.set_cons_succ]
                    refine wpAnyG_pure (i := 4) (oi := { dst := some 110, op := Op.move (Operand.tmp 13), type := 3, pos := _, after := #[], guard := none }) (v := ?_) rfl (by kernel_rfl) (by kernel_rfl) (by kernel_rfl) (by kernel_rfl) (fun _ _ _ h => h) (Or.inl ⟨by rfl, ?_⟩) (fun _ => by assumption) ?_
                    rotate_left
                    · intro w hSw
                      try dsimp only at hSw
                      go_simp
                      try with_reducible rfl
                    try simp only [Act.put, List.setIfInBounds_toArray, List.set_cons_zero, List.set_cons_succ]
                    refine wpAnyG_pure (i := 5) (oi := { dst := some 111, op := Op.move (Operand.tmp 6), type := 30, pos := _, after := #[], guard := none }) (v := ?_) rfl (by kernel_rfl) (by kernel_rfl) (by kernel_rfl) (by kernel_rfl) (fun _ _ _ h => h) (Or.inl ⟨by rfl, ?_⟩) (fun _ => by assumption) ?_
                    rotate_left
                    · intro w hSw
                      try dsimp only at hSw
                      go_simp
                      try with_reducible rfl
                    try simp only [Act.put, List.setIfInBounds_toArray, List.set_cons_zero, List.set_cons_succ]
                    refine wpAnyG_pure (i := 6) (oi := { dst := some 112, op := Op.move (Operand.tmp 7), type := 3, pos := _, after := #[], guard := none }) (v := ?_) rfl (by kernel_rfl) (by kernel_rfl) (by kernel_rfl) (by kernel_rfl) (fun _ _ _ h => h) (Or.inl ⟨by rfl, ?_⟩) (fun _ => by assumption) ?_
                    rotate_left
                    · intro w hSw
                      try dsimp only at hSw
                      go_simp
                      try with_reducible rfl
                    try simp only [Act.put, List.setIfInBounds_toArray, List.set_cons_zero, List.set_cons_succ]
                    refine wpAnyG_pure (i := 7) (oi := { dst := some 113, op := Op.indexAddr 30 (Operand.tmp 111) (Operand.tmp 112), type := 0, pos := _, after := #[{ on := 5, ground := Ground.data }, { on := 6, ground := Ground.data }], guard := none }) (v := ?_) rfl (by kernel_rfl) (by kernel_rfl) (by kernel_rfl) (by kernel_rfl) (fun _ _ _ h => h) (Or.inl ⟨by rfl, ?_⟩) (fun _ => by assumption) ?_
                    rotate_left
                    · intro w hSw
                      try dsimp only at hSw
                      go_simp
                      try with_reducible rfl
                    try simp only [Act.put, List.setIfInBounds_toArray, List.set_cons_zero, List.set_cons_succ]
                    refine wpAnyG_take (i := 8) (oi := { dst := some 114, op := Op.load 22 (Operand.tmp 113), type := 22, pos := _, after := #[{ on := 7, ground := Ground.data }], guard := none }) (v := ?_) rfl (by kernel_rfl) (by kernel_rfl) (by kernel_rfl) (by kernel_rfl) (fun _ _ _ h => h) (Or.inl ⟨by rfl, ?_⟩) (by assumption) ?_
                    rotate_left
                    · intro w hSw
                      try dsimp only at hSw
                      go_simp
                      try with_reducible rfl
                    try simp only [Act.put, List.setIfInBounds_toArray, List.set_cons_zero, List.set_cons_succ]
                    refine wpAnyG_pure (i := 9) (oi := { dst := some 115, op := Op.move (Operand.tmp 13), type := 3, pos := _, after := #[], guard := none }) (v := ?_) rfl (by kernel_rfl) (by kernel_rfl) (by kernel_rfl) (by kernel_rfl) (fun _ _ _ h => h) (Or.inl ⟨by rfl, ?_⟩) (fun _ => by assumption) ?_
                    rotate_left
                    · intro w hSw
                      try dsimp only at hSw
                      go_simp
                      try with_reducible rfl
                    try simp only [Act.put, List.setIfInBounds_toArray, List.set_cons_zero, List.set_cons_succ]
                    refine wpAnyG_pure (i := 10) (oi := { dst := some 116, op := Op.indexAddr 22 (Operand.tmp 114) (Operand.tmp 115), type := 0, pos := _, after := #[{ on := 8, ground := Ground.data }, { on := 9, ground := Ground.data }], guard := none }) (v := ?_) rfl (by kernel_rfl) (by kernel_rfl) (by kernel_rfl) (by kernel_rfl) (fun _ _ _ h => h) (Or.inl ⟨by rfl, ?_⟩) (fun _ => by assumption) ?_
                    rotate_left
                    · intro w hSw
                      try dsimp only at hSw
                      go_simp
                      try with_reducible rfl
                    try simp only [Act.put, List.setIfInBounds_toArray, List.set_cons_zero, List.set_cons_succ]
                    refine wpAnyG_take (i := 11) (oi := { dst := some 117, op := Op.load 5 (Operand.tmp 116), type := 5, pos := _, after := #[{ on := 10, ground := Ground.data }], guard := none }) (v := ?_) rfl (by kernel_rfl) (by kernel_rfl) (by kernel_rfl) (by kernel_rfl) (fun _ _ _ h => h) (Or.inl ⟨by rfl, ?_⟩) (by assumption) ?_
                    rotate_left
                    · intro w hSw
                      try dsimp only at hSw
                      go_simp
                      try with_reducible rfl
                    try simp only [Act.put, List.setIfInBounds_toArray, List.set_cons_zero, List.set_cons_succ]
                    refine wpAnyG_pure (i := 12) (oi := { dst := some 118, op := Op.binOp BinOp.add 5 (Operand.tmp 117) (Operand.const (Value.int IntKind.u8 1)) 5, type := 5, pos := _, after := #[{ on := 11, ground := Ground.data }], guard := none }) (v := ?_) rfl (by kernel_rfl) (by kernel_rfl) (by kernel_rfl) (by kernel_rfl) (fun _ _ _ h => h) (Or.inl ⟨by rfl, ?_⟩) (fun _ => by assumption) ?_
                    rotate_left
                    · intro w hSw
                      try dsimp only at hSw
                      go_simp
                      try with_reducible rfl
                    try simp only [Act.put, List.setIfInBounds_toArray, List.set_cons_zero, List.set_cons_succ]
                    refine wpAnyG_pure (i := 13) (oi := { dst := some 119, op := Op.indexAddr 22 (Operand.tmp 109) (Operand.tmp 110), type := 0, pos := _, after := #[{ on := 3, ground := Ground.data }, { on := 4, ground := Ground.data }, { on := 0, ground := Ground.phase }, { on := 1, ground := Ground.phase }, { on := 2, ground := Ground.phase }, { on := 3, ground := Ground.phase }, { on := 4, ground := Ground.phase }, { on := 5, ground := Ground.phase }, { on := 6, ground := Ground.phase }, { on := 7, ground := Ground.phase }, { on := 8, ground := Ground.phase }, { on := 9, ground := Ground.phase }, { on := 10, ground := Ground.phase }, { on := 11, ground := Ground.phase }, { on := 12, ground := Ground.phase }], guard := none }) (v := ?_) rfl (by kernel_rfl) (by kernel_rfl) (by kernel_rfl) (by kernel_rfl) (fun _ _ _ h => h) (Or.inl ⟨by rfl, ?_⟩) (fun _ => by assumption) ?_
                    rotate_left
                    · intro w hSw
                      try dsimp only at hSw
                      go_simp
                      try with_reducible rfl
                    try simp only [Act.put, List.setIfInBounds_toArray, List.set_cons_zero, List.set_cons_succ]
                    refine wpAnyG_one (i := 14) (o := { dst := none, op := Op.store 5 (Operand.tmp 119) (Operand.tmp 118), type := 0, pos := _, after := #[{ on := 13, ground := Ground.data }, { on := 12, ground := Ground.data }, { on := 0, ground := Ground.phase }, { on := 1, ground := Ground.phase }, { on := 2, ground := Ground.phase }, { on := 3, ground := Ground.phase }, { on := 4, ground := Ground.phase }, { on := 5, ground := Ground.phase }, { on := 6, ground := Ground.phase }, { on := 7, ground := Ground.phase }, { on := 8, ground := Ground.phase }, { on := 9, ground := Ground.phase }, { on := 10, ground := Ground.phase }, { on := 11, ground := Ground.phase }, { on := 12, ground := Ground.phase }], guard := none }) (by kernel_rfl) rfl (fun K hK => ?_)
                    have z0 := hHeld.2.2
                    have cc0 := hHeld.2.1
                    go_simp
                    clear z0 cc0
                    try dsimp only
                    refine hK.out _ _ ?_ (fun hHeld => ?_)
                    · exact fun h => (st_no (by kernel_rfl) h).elim
                    clear hK K
                    try simp only [Act.put, List.setIfInBounds_toArray, List.set_cons_zero, List.set_cons_succ]
                    clear hHeld
                    refine wpAnyG_done (by kernel_rfl) ?_ _
                    refine NoPanic.normal ?_
                    --END tl21
                    go_wp2_with fail
                    go_roundw
                    case rel =>
                      exact ⟨j + 1, ys.set j (t + 1), rfl, hjm, by rw [List.length_set]; exact HJ.out.1, (HJ.out.2.2.1.keep (nextN (Mem.start w5) 1)).set HJ.out.2.2.2.1 HJ.out.2.2.2.2 _ _, HJ.out.2.1.keep (nextN (Mem.start _) 1)⟩
                    case measure => simp [intOf]; omega
                  · obtain rfl : m = j := by omega
                    have HE := Lib.hid (And.intro hul hrows)
                    clear hys hul hrows hxs
                    go_wp2_with fail
                    go_roundw
                    case rel => exact ⟨(a : Int) + 1, ns.set a ⟨x.A, ys, x.c⟩, by simp, by omega, by omega, H3.out.1.set _, HE.out.1, HE.out.2⟩
                    case measure => simp [intOf]; omega
          · have hat : atV L z = none := by
              unfold atV
              split
              · rfl
              · rw [List.getElem?_eq_none (by rw [HN.out]; omega)]
            have HA := Lib.hid (show Calls Try.prog 16 #[.pointer (some ⟨p, 0, none⟩), .int .i64 z] w3 (AtOk w3 none) from by rw [← hat]; exact atL' H3.out.2.1.1 z)
            have HX := Lib.hid hat
            clear hat hin
            go_wp2_with fail
            refine HA.out.mono ?_
            rintro e w4 ⟨B, c8, rfl, ho, hb⟩
            rw [show ((none : Option (List UInt8)).getD []).length = 0 from rfl, show (none : Option (List UInt8)).isSome = false from rfl]
            have hcv1 : (convert 22 9 (.slice B 0 c8)).run Try.prog w4 = .ok (.string (str [])) w4 := convB ho.bytes 0 c8 rfl
            have H4 := Lib.hid (And.intro (H3.out.2.1.keep hb) (H3.out.2.2.keep hb))
            have HR := Lib.hid (show Calls Try.prog 27 #[.pointer (some ⟨q, 0, none⟩), .int .i64 z] w4 (fun e w' => e = .returned (.tuple #[.string (str []), .bool false]) ∧ w4 = w') from by have := ratL' (H3.out.2.1.keep hb).1 z; rw [HX.out] at this; exact this)
            clear ho hb hq hqz
            go_wp2_with fail
            refine HR.out.mono ?_
            rintro e w' ⟨rfl, rfl⟩
            go_wp2_with fail
            clear hcv1
            go_loopw [12] (fun i wr => i = .int .i64 0 ∧ wr = w4) (fun i _ => 0)
            case atStart => exact ⟨rfl, rfl⟩
            case round =>
              obtain ⟨rfl, rfl⟩ := hrel
              go_wp2_with fail
              go_loopw [13] (fun i w9 => i = .int .i64 0 ∧ w9 = wr) (fun i _ => 0)
              case atStart => exact ⟨rfl, rfl⟩
              case round =>
                obtain ⟨rfl, rfl⟩ := hrel
                go_wp2_with fail
                go_roundw
                case rel => exact ⟨z + 1, ns, by simp, by omega, by omega, H3.out.1.next, H4.out.1, H4.out.2⟩
                case measure => simp [intOf]; omega
        · have hzi : (n : Int) < z := by omega
          go_wp2_with fail
          go_roundw
          case rel => exact ⟨k + 1, by simp, by omega, H3.out.2.1.ls⟩
          case measure => simp [intOf]; omega
    · obtain rfl : k = 2 := by omega
      go_wp2_with fail
      go_ret
      exact ⟨rfl, L, H1.out⟩
end Go.Proofs.Ytdgaicnnaidkkaa.NtW
