/- The law PointsCosets: its walk. -/
import Derived.Test.YtaeoocpiggebmaaPtCosM
namespace Go.Proofs.Ytaeoocpiggebmaa.PtW
open Go.RowKit Go.Shelf Mem Gf FdW Rng
set_option linter.unusedVariables false

theorem boolinfo : (Try.prog.info? 4).map (fun i => (i.zero, i.size, i.bytes)) = some (some (.bool false), 1, 1) := by kernel_rfl
theorem PT.setc {w0 w : World} {p : Nat} {R : List Rw} (h : PT w0 p R w) {a : Addr} (v : Value) (hB : w0.heap.size ≤ a.block) (hp : a.block ≠ p) (hr : ∀ r ∈ R, ∀ g, r.A = some ⟨g, 0, none⟩ → a.block ≠ g) : PT w0 p R (w.setCell a v) :=
  ⟨h.p0, h.fld.fr (Fr.setCell (S := fun k => k = a.block) (Fr.refl _ w) (fun _ => rfl) _) (fun e => hp e.symm), h.below.trans (Below.setCell (Below.refl _ _) hB _), fun r hr' => (h.rows r hr').set_far (hr r hr'), h.apart⟩
/-- The points, a group's places, the marks. -/
structure CS (w0 : World) (p g c : Nat) (l : List UInt8) (gG cG : Nat) (gs : List Int) (gI cI : Nat) (bits : List Bool) (w : World) : Prop where
  pt : PT w0 p [⟨2, some ⟨g, 0, none⟩, l, c⟩] w
  ints : Mem.Own w w0.heap.size 3 (some ⟨gG, 0, none⟩) cG (gs.map i64v)
  bools : Mem.Own w w0.heap.size 4 (some ⟨gI, 0, none⟩) cI (bits.map Value.bool)
  ne : gI ≠ p ∧ gI ≠ g ∧ gI ≠ gG ∧ gG ≠ p
section
variable {w0 w w' : World} {p g c gG cG gI cI : Nat} {l : List UInt8} {gs : List Int} {bits : List Bool}
theorem CS.drew (h : CS w0 p g c l gG cG gs gI cI bits w) : CS w0 p g c l gG cG gs gI cI bits w.drew :=
  ⟨h.pt.keep (nextN (Mem.start w) 1), h.ints.keep (nextN (Mem.start w) 1), h.bools.keep (nextN (Mem.start w) 1), h.ne⟩
theorem CS.intAt (h : CS w0 p g c l gG cG gs gI cI bits w) {m : Nat} {x : Int} (hx : gs[m]? = some x) : w.cell? ⟨gG, m, none⟩ = some (.int .i64 x) := by
  have hlt : m < gs.length := (List.getElem?_eq_some_iff.1 hx).1
  obtain ⟨g', hA, _, _, hc, _⟩ := h.ints.at_ (k := m) (by rw [List.length_map]; exact hlt)
  injection hA with hA; injection hA with hA; subst hA
  rw [hc, List.getElem_map, (List.getElem?_eq_some_iff.1 hx).2]; rfl
theorem CS.bitAt (h : CS w0 p g c l gG cG gs gI cI bits w) {k : Nat} {b : Bool} (hb : bits[k]? = some b) : w.cell? ⟨gI, k, none⟩ = some (.bool b) := by
  have hlt : k < bits.length := (List.getElem?_eq_some_iff.1 hb).1
  obtain ⟨g', hA, _, _, hc, _⟩ := h.bools.at_ (k := k) (by rw [List.length_map]; exact hlt)
  injection hA with hA; injection hA with hA; subst hA
  rw [hc, List.getElem_map, (List.getElem?_eq_some_iff.1 hb).2]
theorem CS.set (h : CS w0 p g c l gG cG gs gI cI bits w) {k : Nat} (hk : k < bits.length) : w.frozen? ⟨gI, k, none⟩ = false ∧ CS w0 p g c l gG cG gs gI cI (bits.set k true) (w.setCell ⟨gI, k, none⟩ (.bool true)) := by
  obtain ⟨g', hA, hg, _, hc, hz, hs⟩ := h.bools.at_ (k := k) (by rw [List.length_map]; exact hk)
  injection hA with hA; injection hA with hA; subst hA
  refine ⟨hz, h.pt.setc _ hg h.ne.1 (fun r hr g' hg' => ?_), h.ints.set_far (fun g' hg' => ?_), ?_, h.ne⟩
  · obtain rfl := List.mem_singleton.1 hr
    injection hg' with hg'; injection hg' with hg'; subst hg'; exact h.ne.2.1
  · injection hg' with hg'; injection hg' with hg'; subst hg'; exact h.ne.2.2.1
  · have := hs (.bool true); rw [List.map_set]; exact this
theorem CS.pow (h : CS w0 p g c l gG cG gs gI cI bits w) (x : UInt8) (n : Int) : Calls Try.prog 21 #[.pointer (some ⟨p, 0, none⟩), .int .u8 (x.toNat : Int), .int .i64 n] w fun e w' => e = .returned (.int .u8 ((Gf.pow x n).toNat : Int)) ∧ CS w0 p g c l gG cG gs gI cI bits w' :=
  (pow_any w (some p) (FldR.some h.pt.fld) _ x rfl n).mono fun e w' ⟨he, hF, hf⟩ => by
    have hf' : Fr (fun k => k = p) w w' := hf.mono fun k _ hk => by injection hk with hk; exact hk.symm
    exact ⟨he, h.pt.fr (hF p rfl) hf', h.ints.fr hf' (fun g' hg' => by injection hg' with hg'; injection hg' with hg'; subst hg'; exact h.ne.2.2.2), h.bools.fr hf' (fun g' hg' => by injection hg' with hg'; injection hg' with hg'; subst hg'; exact h.ne.1), h.ne⟩
end

set_option maxRecDepth 100000 in
set_option maxHeartbeats 8000000 in
theorem lcos_no (w : World) (r gs : Int) (hs : ¬ CosOk r gs) : Calls Try.prog 7 #[.int .i64 r, .int .i64 gs] w fun e w' => e = .returned (.bool true) ∧ Below w.heap.size w w' := by
  have HS := Lib.hid hs
  clear hs
  go_enter Try.func7, Try.ntmps7
  go_wp2_with fail
  refine (newT _).mono ?_
  rintro e w1 ⟨rfl, h⟩
  have H1 := Lib.hid h
  clear h
  go_wp2_with fail
  refine (cosT H1.out 2 r gs).mono ?_
  rintro e w2 ⟨A2, c2, rfl, h⟩
  rw [cosE_no HS.out]
  have H2 := Lib.hid h
  clear h
  go_wp2_with fail
  refine (works_any _).mono ?_
  rintro e w3 ⟨rfl, hb⟩
  have H3 := Lib.hid (PT.keep H2.out hb)
  clear hb
  go_wp2_with fail
  go_ret
  exact ⟨rfl, H3.out.below⟩
set_option maxRecDepth 100000 in
set_option maxHeartbeats 32000000 in
theorem lcos_ok (w : World) (R G s L : Nat) (hR : 1 ≤ R ∧ R ≤ 254) (hs : s * (R + 1) = 255) (hG : G ≤ s) (hL : (R + 1) * G = L) (hc : CosOk (R : Int) (G : Int)) (hsd : 255 / (R + 1) = s) : Calls Try.prog 7 #[.int .i64 (R : Int), .int .i64 (G : Int)] w fun e w' => e = .returned (.bool true) ∧ Below w.heap.size w w' := by
  obtain ⟨i0, hi0, hz0, hz1, hz2⟩ := info_parts boolinfo
  have HS := Lib.hid hc
  have hL2 : L ≤ 255 := by rw [← hL, ← hs, Nat.mul_comm s]; exact Nat.mul_le_mul_left _ hG
  have hLi : (L : Int) ≤ 255 := by omega
  have hR1 : (1 : Int) ≤ (R : Int) := by omega
  have hR2 : (R : Int) ≤ 254 := by omega
  have hmul : ((R : Int) + 1) * (G : Int) = (L : Int) := by rw [← hL]; simp
  have HL := Lib.hid (And.intro hL (And.intro hs hG))
  have HSD := Lib.hid hsd
  have HR := Lib.hid (And.intro hR hL2)
  clear hc hs hG hL hsd hR
  go_enter Try.func7, Try.ntmps7
  go_wp2_with fail
  refine (newT _).mono ?_
  rintro e w1 ⟨rfl, h⟩
  have H1 := Lib.hid h
  clear h
  go_wp2_with fail
  refine (cosT H1.out 2 (R : Int) (G : Int)).mono ?_
  rintro e w2 ⟨A2, c2, rfl, h⟩
  rw [cosE_ok HS.out, cosR_ok0 HS.out, cosL_len, HL.out.1]
  rw [cosR_ok0 HS.out, HSD.out] at h
  have HG := Lib.hid (show ∀ i, i < L → (cosL s (R + 1) G)[i]? = some (cv s (R + 1) i) from fun i hi => cos_get (by rw [HL.out.1]; exact hi))
  have HLN := Lib.hid (show (cosL s (R + 1) G).length = L from by rw [cosL_len, HL.out.1])
  generalize cosL s (R + 1) G = l at *
  have H2 := Lib.hid h
  clear h
  go_wp2_with fail
  go_loopw [8] (fun i wr => ∃ k : Nat, i = .int .i64 (k : Int) ∧ k ≤ L ∧ PT w w.heap.size [⟨2, A2, l, c2⟩] wr) (fun i _ => L - (intOf i).toNat)
  case atStart => exact ⟨0, rfl, by omega, H2.out⟩
  case round =>
    obtain ⟨i, rfl, hi, h⟩ := hrel
    have HR2 := Lib.hid h
    clear h H2
    obtain ⟨wo, rfl⟩ : ∃ wo : World, wo = wr := ⟨_, rfl⟩
    by_cases hiL : i < L
    · obtain ⟨g, rfl⟩ := rowP HR2.out (k := i) (by rw [HLN.out]; exact hiL)
      have hii : (i : Int) < (L : Int) := by omega
      have hi0' : (0 : Int) ≤ (i : Int) := by omega
      go_wp2_with ((with_reducible show wpList _ _ _ ((⟨some 32, _, _, _, _, _⟩ : Oper) :: _) _ _); refine wpList_mk rfl _ _ _ rfl 4 i0 1 (.bool false) Try.underlying40 hi0 hz0 hz1 hz2 rfl _ L rfl rfl (by simp) (by omega) (by unfold maxLen; omega) L rfl ?_)
      have hb3 := nextA (Mem.start wo) (.cells (Array.replicate L (Value.bool false)) 4)
      have ho3 := own_mk wo L (.bool false) 4 (by unfold maxLen; omega) (base := w.heap.size) HR2.out.below.size
      have H3 := Lib.hid (And.intro (HR2.out.keep hb3) (And.intro ho3 (show (wo.alloc (.cells (Array.replicate L (Value.bool false)) 4)).heap.size = wo.heap.size + 1 from by simp)))
      clear hb3 ho3
      generalize wo.alloc (.cells (Array.replicate L (Value.bool false)) 4) = w3 at *
      have HGR := Lib.hid (group_ok w3 R i (i / (R + 1) * (R + 1)) (i % (R + 1)) ⟨HR.out.1.1, Nat.le_trans HR.out.1.2 (by decide)⟩ (by omega) rfl (Nat.div_add_mod' i (R + 1)).symm)
      have HGL := Lib.hid (show (gl (i / (R + 1) * (R + 1)) i (R + 1)).length = R from by rw [gl_len _ _ (Nat.div_mul_le_self _ _), if_pos (by have := Nat.div_add_mod' i (R + 1); have := Nat.mod_lt i (show 0 < R + 1 by omega); omega)]; omega)
      have HGM := Lib.hid (show ∀ k : Nat, k ≠ i → (((k : Int) ∈ gl (i / (R + 1) * (R + 1)) i (R + 1)) ↔ i / (R + 1) = k / (R + 1)) from fun k hk => gl_group (by omega) hk)
      have HGV := Lib.hid (show ∀ x : Int, x ∈ gl (i / (R + 1) * (R + 1)) i (R + 1) → ∃ v : Nat, x = (v : Int) ∧ v < L ∧ v ≠ i from fun x hx => by have := gl_lt (Nat.succ_pos R) (by rw [HL.out.1]; exact hiL) hx; rwa [HL.out.1] at this)
      generalize gl (i / (R + 1) * (R + 1)) i (R + 1) = gs at *
      go_wp2_with fail
      refine HGR.out.mono ?_
      rintro e w4 ⟨AG, cG, rfl, ho, hb⟩
      rw [HGL.out]
      obtain ⟨gG, hAG, hgG, _⟩ := ho.at_ (k := 0) (by rw [List.length_map, HGL.out]; omega)
      subst hAG
      have hCS : CS w w.heap.size g c2 l gG cG gs wo.heap.size L (List.replicate L false) w4 := by
        have e1 : (List.replicate L false).map Value.bool = List.replicate L (Value.bool false) := by rw [List.map_replicate]
        have hl0 := HR2.out.below.size
        have hf := HR2.out.fld.lt
        obtain ⟨g', hA', _, hg', _⟩ := (HR2.out.rows _ (List.mem_cons_self ..)).at_ (k := 0) (by rw [List.length_map, HLN.out]; omega)
        injection hA' with hA'; injection hA' with hA'; subst hA'
        have hs3 := H3.out.2.2
        exact ⟨H3.out.1.keep hb, ho.down (by omega), by rw [e1]; exact H3.out.2.1.keep hb, by omega, by omega, by omega, by omega⟩
      have H4 := Lib.hid hCS
      clear hCS ho hb hgG HGR H3
      go_wp2_with fail
      go_loopw [11] (fun j wr => ∃ (m : Nat) (bits : List Bool), j = .int .i64 (m : Int) ∧ m ≤ R ∧ bits.length = L ∧ (∀ k, k < L → bits[k]? = some (decide ((k : Int) ∈ gs.take m))) ∧ CS w w.heap.size g c2 l gG cG gs wo.heap.size L bits wr) (fun j _ => R - (intOf j).toNat)
      case atStart => exact ⟨0, List.replicate L false, rfl, by omega, by simp, fun k hk => by rw [List.getElem?_replicate, if_pos hk]; simp, H4.out⟩
      case round =>
        obtain ⟨m, bits, rfl, hm, hbl, hbb, h⟩ := hrel
        have HB := Lib.hid (And.intro hbl hbb)
        clear hbl hbb H4
        obtain ⟨wp, rfl⟩ : ∃ wp : World, wp = wr := ⟨_, rfl⟩
        by_cases hmR : m < R
        · have hmi : (m : Int) < (R : Int) := by omega
          have hm0 : (0 : Int) ≤ (m : Int) := by omega
          obtain ⟨v, hv, hvL, hvi⟩ := HGV.out (gs[m]'(by rw [HGL.out]; exact hmR)) (List.getElem_mem _)
          have hgm : gs[m]? = some (v : Int) := by rw [← hv]; exact List.getElem?_eq_getElem _
          have hc1 := h.intAt hgm
          obtain ⟨hz, hset⟩ := h.set (k := v) (by rw [HB.out.1]; exact hvL)
          have hc3 := h.bitAt (HB.out.2 v hvL)
          obtain ⟨bv, hbv⟩ : ∃ bv, decide ((v : Int) ∈ gs.take m) = bv := ⟨_, rfl⟩
          rw [hbv] at hc3
          have HX := Lib.hid (And.intro hset (bits_step HB.out.1 hgm HB.out.2))
          have hv0 : ¬ (v : Int) < 0 := by omega
          have hv1 : (0 : Int) ≤ (v : Int) := by omega
          have hv2 : (v : Int) < (L : Int) := by omega
          have hv3 : ((v : Int) == (i : Int)) = false := by simp; omega
          clear hv hgm hset hbv h hvi
          go_wp2_with fail
          go_roundw
          case rel => exact ⟨m + 1, bits.set v true, by simp, by omega, by rw [List.length_set]; exact HB.out.1, HX.out.2, HX.out.1⟩
          case measure => simp [intOf]; omega
        · obtain rfl : R = m := by omega
          have HB2 := Lib.hid (show ∀ k, k < L → bits[k]? = some (decide ((k : Int) ∈ gs)) from fun k hk => by have := HB.out.2 k hk; rwa [List.take_of_length_le (by rw [HGL.out]; omega)] at this)
          have H5 := Lib.hid h
          clear h HB hm
          go_wp2_with fail
          go_loopw [12] (fun j wr => ∃ k : Nat, j = .int .i64 (k : Int) ∧ k ≤ L ∧ CS w w.heap.size g c2 l gG cG gs wo.heap.size L bits wr) (fun j _ => L - (intOf j).toNat)
          case atStart => exact ⟨0, rfl, by omega, H5.out⟩
          case round =>
            obtain ⟨k, rfl, hk, h⟩ := hrel
            obtain ⟨wq, rfl⟩ : ∃ wq : World, wq = wr := ⟨_, rfl⟩
            clear H5
            by_cases hkL : k < L
            · have hki : (k : Int) < (L : Int) := by omega
              have hk0 : (0 : Int) ≤ (k : Int) := by omega
              by_cases hkk : k = i
              · subst hkk
                have H6 := Lib.hid h
                clear h
                go_wp2_with fail
                go_roundw
                case rel => exact ⟨k + 1, by simp, by omega, H6.out⟩
                case measure => simp [intOf]; omega
              · have hne : ((k : Int) == (i : Int)) = false := by simp; omega
                have h1 := cv_inj HL.out.2.1 HL.out.2.2 (by rw [HL.out.1]; exact hiL) (by rw [HL.out.1]; exact hkL) (fun e => hkk e.symm)
                have h2 := cv_pow HL.out.2.1 HL.out.2.2 (i := i) (k := k) (by rw [HL.out.1]; exact hiL) (by rw [HL.out.1]; exact hkL)
                rw [← HGM.out k hkk] at h2
                have HX := Lib.hid (HG.out i hiL)
                have HY := Lib.hid (HG.out k hkL)
                have HZ := Lib.hid (HB2.out k hkL)
                generalize cv s (R + 1) i = x at *
                generalize cv s (R + 1) k = y at *
                obtain ⟨px, hpx⟩ : ∃ px, Gf.pow x (((R + 1 : Nat) : Nat) : Int) = px := ⟨_, rfl⟩
                obtain ⟨py, hpy⟩ : ∃ py, Gf.pow y (((R + 1 : Nat) : Nat) : Int) = py := ⟨_, rfl⟩
                rw [hpx, hpy] at h2
                obtain ⟨bv, hbv⟩ : ∃ bv, decide ((k : Int) ∈ gs) = bv := ⟨_, rfl⟩
                rw [hbv] at HZ
                have d1 : ((x.toNat : Int) == (y.toNat : Int)) = false := by simp; intro e; exact h1 (UInt8.toNat_inj.1 (by omega))
                have d2 : ((px.toNat : Int) == (py.toNat : Int)) = bv := by
                  rw [← hbv, Bool.eq_iff_iff, beq_iff_eq, decide_eq_true_iff, ← h2]
                  exact ⟨fun e => UInt8.toNat_inj.1 (by omega), fun e => by rw [e]⟩
                have e1 : (((R + 1 : Nat) : Nat) : Int) = (R : Int) + 1 := by simp
                rw [e1] at hpx hpy
                have KX := Lib.hid (show ∀ W, CS w w.heap.size g c2 l gG cG gs wo.heap.size L bits W → Calls Try.prog 21 #[.pointer (some ⟨w.heap.size, 0, none⟩), .int .u8 (x.toNat : Int), .int .i64 ((R : Int) + 1)] W fun e w' => e = .returned (.int .u8 (px.toNat : Int)) ∧ CS w w.heap.size g c2 l gG cG gs wo.heap.size L bits w' from fun W hW => by rw [← hpx]; exact hW.pow x _)
                have KY := Lib.hid (show ∀ W, CS w w.heap.size g c2 l gG cG gs wo.heap.size L bits W → Calls Try.prog 21 #[.pointer (some ⟨w.heap.size, 0, none⟩), .int .u8 (y.toNat : Int), .int .i64 ((R : Int) + 1)] W fun e w' => e = .returned (.int .u8 (py.toNat : Int)) ∧ CS w w.heap.size g c2 l gG cG gs wo.heap.size L bits w' from fun W hW => by rw [← hpy]; exact hW.pow y _)
                have hc1 := cellP h.pt HX.out
                have hc2 := cellP h.pt HY.out
                have hc3 := h.bitAt HZ.out
                have hd := h.drew
                have HW := Lib.hid (show IntKind.i64.wrap ((R : Int) + 1) = (R : Int) + 1 from IntWalk.i64_in _ (by omega))
                have hw := HW.out
                clear h h1 h2 hpx hpy hbv e1 hkk
                go_wp2_with fail
                go_region_held3 (fun w' => w'.cell? ⟨g, i, none⟩ = some (.int .u8 (x.toNat : Int)) ∧ w'.cell? ⟨g, k, none⟩ = some (.int .u8 (y.toNat : Int)) ∧ w'.cell? ⟨wo.heap.size, k, none⟩ = some (.bool bv) ∧ CS w w.heap.size g c2 l gG cG gs wo.heap.size L bits w')
                  (first | exact ⟨cellP (CS.pt (by assumption)) HX.out, cellP (CS.pt (by assumption)) HY.out, CS.bitAt (by assumption) HZ.out, by assumption⟩ | go_keep)
                  (first
                    | ((with_reducible refine (KX.out _ (by assumption)).mono ?_); rintro e w5 ⟨rfl, h⟩)
                    | ((with_reducible refine (KY.out _ (by assumption)).mono ?_); rintro e w5 ⟨rfl, h⟩))
                go_wp2_with fail
                go_roundw
                case rel => exact ⟨k + 1, by simp, by omega, by assumption⟩
                case measure => simp [intOf]; omega
            · obtain rfl : k = L := by omega
              have hx0 := cv_ne s (R + 1) i
              have HX := Lib.hid (HG.out i hiL)
              generalize cv s (R + 1) i = x at *
              have d1 : ((x.toNat : Int) == 0) = false := by simp; intro e; exact hx0 (UInt8.toNat_inj.1 (by rw [e]; rfl))
              have hc1 := cellP h.pt HX.out
              have H6 := Lib.hid h
              clear h hx0
              go_wp2_with fail
              go_roundw
              case rel => exact ⟨i + 1, by simp, by omega, H6.out.pt⟩
              case measure => simp [intOf]; omega
    · obtain rfl : i = L := by omega
      go_wp2_with fail
      refine (works_any _).mono ?_
      rintro e w3 ⟨rfl, hb⟩
      have H3 := Lib.hid (PT.keep HR2.out hb)
      clear hb
      go_wp2_with fail
      go_ret
      exact ⟨rfl, H3.out.below⟩
theorem lcos_law (w : World) (r : Int) (gs : Int) : Calls Try.prog 7 #[.int .i64 r, .int .i64 gs] w fun e w' => e = .returned (.bool true) ∧ Below w.heap.size w w' := by
  by_cases hs : CosOk r gs
  · have hs' := hs
    obtain ⟨h1, h2, h3, h4, h5⟩ := hs'
    obtain ⟨R, rfl⟩ : ∃ R : Nat, r = (R : Int) := ⟨r.toNat, by omega⟩
    obtain ⟨G, rfl⟩ : ∃ G : Nat, gs = (G : Int) := ⟨gs.toNat, by omega⟩
    have e1 : (255 : Int) % ((R : Int) + 1) = ((255 % (R + 1) : Nat) : Int) := by simp
    have e2 : (255 : Int) / ((R : Int) + 1) = ((255 / (R + 1) : Nat) : Int) := by simp
    rw [e1] at h3
    rw [e2] at h5
    have h3' : 255 % (R + 1) = 0 := by omega
    have hm := Nat.div_add_mod' 255 (R + 1)
    rw [h3', Nat.add_zero] at hm
    exact lcos_ok w R G (255 / (R + 1)) _ (by omega) hm (by omega) rfl hs rfl
  · exact lcos_no w r gs hs
theorem lcos_claim (w : World) (r : Int) (_ : B64 r) (gs : Int) (_ : B64 gs) : Calls Try.prog 7 #[.int .i64 r, .int .i64 gs] w fun e w' => e = .returned (.bool true) ∧ Below w.heap.size w w' := lcos_law w r gs
end Go.Proofs.Ytaeoocpiggebmaa.PtW
