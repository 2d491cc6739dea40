/- The law PointsKnown: its walk. -/
import Derived.Test.YtaeoocpiggebmaaPtLawCos
namespace Go.Proofs.Ytaeoocpiggebmaa.PtW
open Go.RowKit Go.Shelf Mem Gf FdW Rng
set_option linter.unusedVariables false

def lst7 : List Int := [(2 : Int), 4, 14, 16, 50, 84, 254]
def lst11 : List Int := [(-1 : Int), 0, 1, 3, 5, 15, 17, 51, 85, 255, 256]
/-- Since w0 nothing that was there has turned; the row of numbers. -/
def KS (w0 : World) (A : Option Addr) (l : List Int) (w : World) : Prop := Below w0.heap.size w0 w ∧ Cells w w.heap.size A (l.map i64v)
theorem KS.keep {w0 w w' : World} {A : Option Addr} {l : List Int} (h : KS w0 A l w) (hb : Below w.heap.size w w') : KS w0 A l w' := ⟨next h.1 hb, (h.2.below hb).up hb.size⟩
theorem KS.new {w0 w : World} {A : Option Addr} {l' : List Int} (h : KS w0 A l' w) (cs : Array Value) (l : List Int) (hc : cs.toList = l.map i64v) : KS w0 (some ⟨w.heap.size, 0, none⟩) l (w.alloc (.cells cs 3)) :=
  ⟨nextA h.1 _, fun _ => ⟨w.heap.size, 0, rfl, by simp, fun j v hv => by rw [new_cell, ← hv, ← hc, Nat.zero_add, Array.getElem?_toList]⟩⟩
theorem KS.at_ {w0 w : World} {g : Nat} {l : List Int} (h : KS w0 (some ⟨g, 0, none⟩) l w) {k : Nat} {x : Int} (hx : l[k]? = some x) : w.cell? ⟨g, k, none⟩ = some (.int .i64 x) := by
  have hlt : k < l.length := (List.getElem?_eq_some_iff.1 hx).1
  obtain ⟨b, o, hA, _, hc⟩ := h.2 (by rw [List.length_map]; omega)
  injection hA with hA; injection hA with h1 h2; subst h1; subst h2
  have := hc k (i64v x) (by rw [List.getElem?_map, hx]; rfl)
  rwa [Nat.zero_add] at this
theorem lst7_at {k : Nat} (h : k < 7) : ∃ x : Int, lst7[k]? = some x ∧ 2 ≤ x ∧ x ≤ 254 := by
  refine ⟨lst7[k]'h, List.getElem?_eq_getElem _, ?_⟩
  have : ∀ x ∈ lst7, 2 ≤ x ∧ x ≤ 254 := by decide
  exact this _ (List.getElem_mem _)
theorem lst11_at {k : Nat} (h : k < 11) : ∃ x : Int, lst11[k]? = some x := ⟨lst11[k]'h, List.getElem?_eq_getElem _⟩
set_option maxRecDepth 100000 in
set_option maxHeartbeats 8000000 in
theorem pknown_any (w : World) : Calls Try.prog 8 #[] w fun e w' => e = .returned (.bool true) ∧ Below w.heap.size w w' := by
  go_enter Try.func8, Try.ntmps8
  go_wp2_with fail
  go_loopw [1] (fun i wr => ∃ r : Int, i = .int .i64 r ∧ -1 ≤ r ∧ r ≤ 258 ∧ KS w none [] wr) (fun i _ => (258 - intOf i).toNat)
  case atStart => exact ⟨-1, rfl, by omega, by omega, Mem.start w, Cells.nil⟩
  case round =>
    obtain ⟨r, rfl, hr1, hr2, h⟩ := hrel
    have HR := Lib.hid h
    clear h
    obtain ⟨wo, rfl⟩ : ∃ wo : World, wo = wr := ⟨_, rfl⟩
    by_cases hr : r < 258
    · by_cases hr6 : r < 60
      · go_wp2_with fail
        refine (of_law _ _ _ _ _).mono ?_
        rintro e w11 ⟨rfl, hb⟩
        have H11 := Lib.hid (KS.keep HR.out hb)
        clear hb
        go_wp2_with fail
        refine (group_law _ _ _).mono ?_
        rintro e w12 ⟨rfl, hb⟩
        have H12 := Lib.hid (KS.keep H11.out hb)
        clear hb
        go_wp2_with fail
        refine (group_law _ _ _).mono ?_
        rintro e w13 ⟨rfl, hb⟩
        have H13 := Lib.hid (KS.keep H12.out hb)
        clear hb
        go_wp2_with fail
        go_roundw
        case rel => exact ⟨r + 1, rfl, by omega, by omega, H13.out⟩
        case measure => simp [intOf]; omega
      · go_wp2_with fail
        refine (of_law _ _ _ _ _).mono ?_
        rintro e w11 ⟨rfl, hb⟩
        have H11 := Lib.hid (KS.keep HR.out hb)
        clear hb
        go_wp2_with fail
        refine (group_law _ _ _).mono ?_
        rintro e w12 ⟨rfl, hb⟩
        have H12 := Lib.hid (KS.keep H11.out hb)
        clear hb
        go_wp2_with fail
        go_roundw
        case rel => exact ⟨r + 1, rfl, by omega, by omega, H12.out⟩
        case measure => simp [intOf]; omega
    · obtain rfl : r = 258 := by omega
      have HK := Lib.hid (KS.new HR.out #[.int .i64 2, .int .i64 4, .int .i64 14, .int .i64 16, .int .i64 50, .int .i64 84, .int .i64 254] lst7 rfl)
      clear HR
      go_wp2_with fail
      generalize hg : wo.heap.size = g at *
      generalize wo.alloc (.cells #[.int .i64 2, .int .i64 4, .int .i64 14, .int .i64 16, .int .i64 50, .int .i64 84, .int .i64 254] 3) = w1 at *
      go_loopw [30] (fun i wr => ∃ k : Nat, i = .int .i64 (k : Int) ∧ k ≤ 7 ∧ KS w (some ⟨g, 0, none⟩) lst7 wr) (fun i _ => 7 - (intOf i).toNat)
      case atStart => exact ⟨0, rfl, by omega, HK.out⟩
      case round =>
        obtain ⟨k, rfl, hk, h⟩ := hrel
        have HR := Lib.hid h
        clear h HK
        obtain ⟨wp, rfl⟩ : ∃ wp : World, wp = wr := ⟨_, rfl⟩
        by_cases hk7 : k < 7
        · obtain ⟨x, hx, hx2, hx3⟩ := lst7_at hk7
          have hc := HR.out.at_ hx
          have hki : (k : Int) < 7 := by omega
          have hk0 : (0 : Int) ≤ (k : Int) := by omega
          have hz : ((x + 1 : Int) == 0) = false := by simp; omega
          obtain ⟨q, hq⟩ : ∃ q, (255 : Int).tdiv (x + 1) = q := ⟨_, rfl⟩
          have hq0 : 0 ≤ q := by rw [← hq, Int.tdiv_eq_ediv_of_nonneg (by omega)]; exact Int.ediv_nonneg (by omega) (by omega)
          have hq1 : q ≤ 255 := by rw [← hq, Int.tdiv_eq_ediv_of_nonneg (by omega)]; exact Int.ediv_le_self _ (by omega)
          clear hx
          by_cases h4 : 4 < x
          · by_cases h5 : x < 51
            · go_wp2_with fail
              refine (lcos_law _ _ _).mono ?_
              rintro e w11 ⟨rfl, hb⟩
              have H11 := Lib.hid (KS.keep HR.out hb)
              clear hb
              go_wp2_with fail
              refine (lcos_law _ _ _).mono ?_
              rintro e w12 ⟨rfl, hb⟩
              have H12 := Lib.hid (KS.keep H11.out hb)
              clear hb
              go_wp2_with fail
              refine (of_law _ _ _ _ _).mono ?_
              rintro e w13 ⟨rfl, hb⟩
              have H13 := Lib.hid (KS.keep H12.out hb)
              clear hb
              go_wp2_with fail
              refine (of_law _ _ _ _ _).mono ?_
              rintro e w14 ⟨rfl, hb⟩
              have H14 := Lib.hid (KS.keep H13.out hb)
              clear hb
              go_wp2_with fail
              refine (lcos_law _ _ _).mono ?_
              rintro e w15 ⟨rfl, hb⟩
              have H15 := Lib.hid (KS.keep H14.out hb)
              clear hb
              go_wp2_with fail
              go_roundw
              case rel => exact ⟨k + 1, by simp, by omega, H15.out⟩
              case measure => simp [intOf]; omega
            · go_wp2_with fail
              refine (lcos_law _ _ _).mono ?_
              rintro e w11 ⟨rfl, hb⟩
              have H11 := Lib.hid (KS.keep HR.out hb)
              clear hb
              go_wp2_with fail
              refine (of_law _ _ _ _ _).mono ?_
              rintro e w12 ⟨rfl, hb⟩
              have H12 := Lib.hid (KS.keep H11.out hb)
              clear hb
              go_wp2_with fail
              refine (of_law _ _ _ _ _).mono ?_
              rintro e w13 ⟨rfl, hb⟩
              have H13 := Lib.hid (KS.keep H12.out hb)
              clear hb
              go_wp2_with fail
              refine (lcos_law _ _ _).mono ?_
              rintro e w14 ⟨rfl, hb⟩
              have H14 := Lib.hid (KS.keep H13.out hb)
              clear hb
              go_wp2_with fail
              go_roundw
              case rel => exact ⟨k + 1, by simp, by omega, H14.out⟩
              case measure => simp [intOf]; omega
          · go_wp2_with fail
            refine (lcos_law _ _ _).mono ?_
            rintro e w11 ⟨rfl, hb⟩
            have H11 := Lib.hid (KS.keep HR.out hb)
            clear hb
            go_wp2_with fail
            refine (of_law _ _ _ _ _).mono ?_
            rintro e w12 ⟨rfl, hb⟩
            have H12 := Lib.hid (KS.keep H11.out hb)
            clear hb
            go_wp2_with fail
            refine (of_law _ _ _ _ _).mono ?_
            rintro e w13 ⟨rfl, hb⟩
            have H13 := Lib.hid (KS.keep H12.out hb)
            clear hb
            go_wp2_with fail
            refine (lcos_law _ _ _).mono ?_
            rintro e w14 ⟨rfl, hb⟩
            have H14 := Lib.hid (KS.keep H13.out hb)
            clear hb
            go_wp2_with fail
            go_roundw
            case rel => exact ⟨k + 1, by simp, by omega, H14.out⟩
            case measure => simp [intOf]; omega
        · obtain rfl : k = 7 := by omega
          rw [show (((7 : Nat) : Nat) : Int) = 7 from rfl]
          have HK := Lib.hid (KS.new HR.out #[.int .i64 (-1), .int .i64 0, .int .i64 1, .int .i64 3, .int .i64 5, .int .i64 15, .int .i64 17, .int .i64 51, .int .i64 85, .int .i64 255, .int .i64 256] lst11 rfl)
          clear HR
          go_wp2_with fail
          generalize hg2 : wp.heap.size = g2 at *
          generalize wp.alloc (.cells #[.int .i64 (-1), .int .i64 0, .int .i64 1, .int .i64 3, .int .i64 5, .int .i64 15, .int .i64 17, .int .i64 51, .int .i64 85, .int .i64 255, .int .i64 256] 3) = w2 at *
          go_loopw [84] (fun i wr => ∃ k : Nat, i = .int .i64 (k : Int) ∧ k ≤ 11 ∧ KS w (some ⟨g2, 0, none⟩) lst11 wr) (fun i _ => 11 - (intOf i).toNat)
          case atStart => exact ⟨0, rfl, by omega, HK.out⟩
          case round =>
            obtain ⟨k, rfl, hk, h⟩ := hrel
            have HR := Lib.hid h
            clear h HK
            obtain ⟨wq, rfl⟩ : ∃ wq : World, wq = wr := ⟨_, rfl⟩
            by_cases hk7 : k < 11
            · obtain ⟨x, hx⟩ := lst11_at hk7
              have hc := HR.out.at_ hx
              have hki : (k : Int) < 11 := by omega
              have hk0 : (0 : Int) ≤ (k : Int) := by omega
              clear hx
              go_wp2_with fail
              refine (of_law _ _ _ _ _).mono ?_
              rintro e w11 ⟨rfl, hb⟩
              have H11 := Lib.hid (KS.keep HR.out hb)
              clear hb
              go_wp2_with fail
              refine (of_law _ _ _ _ _).mono ?_
              rintro e w12 ⟨rfl, hb⟩
              have H12 := Lib.hid (KS.keep H11.out hb)
              clear hb
              go_wp2_with fail
              refine (of_law _ _ _ _ _).mono ?_
              rintro e w13 ⟨rfl, hb⟩
              have H13 := Lib.hid (KS.keep H12.out hb)
              clear hb
              go_wp2_with fail
              refine (unlike_law _ _ _).mono ?_
              rintro e w14 ⟨rfl, hb⟩
              have H14 := Lib.hid (KS.keep H13.out hb)
              clear hb
              go_wp2_with fail
              refine (unlike_law _ _ _).mono ?_
              rintro e w15 ⟨rfl, hb⟩
              have H15 := Lib.hid (KS.keep H14.out hb)
              clear hb
              go_wp2_with fail
              refine (of_law _ _ _ _ _).mono ?_
              rintro e w16 ⟨rfl, hb⟩
              have H16 := Lib.hid (KS.keep H15.out hb)
              clear hb
              go_wp2_with fail
              refine (group_law _ _ _).mono ?_
              rintro e w17 ⟨rfl, hb⟩
              have H17 := Lib.hid (KS.keep H16.out hb)
              clear hb
              go_wp2_with fail
              refine (group_law _ _ _).mono ?_
              rintro e w18 ⟨rfl, hb⟩
              have H18 := Lib.hid (KS.keep H17.out hb)
              clear hb
              go_wp2_with fail
              go_roundw
              case rel => exact ⟨k + 1, by simp, by omega, H18.out⟩
              case measure => simp [intOf]; omega
            · obtain rfl : k = 11 := by omega
              go_wp2_with fail
              refine (of_law _ _ _ _ _).mono ?_
              rintro e w31 ⟨rfl, hb⟩
              have H31 := Lib.hid (KS.keep HR.out hb)
              clear hb
              go_wp2_with fail
              refine (of_law _ _ _ _ _).mono ?_
              rintro e w32 ⟨rfl, hb⟩
              have H32 := Lib.hid (KS.keep H31.out hb)
              clear hb
              go_wp2_with fail
              refine (group_law _ _ _).mono ?_
              rintro e w33 ⟨rfl, hb⟩
              have H33 := Lib.hid (KS.keep H32.out hb)
              clear hb
              go_wp2_with fail
              refine (group_law _ _ _).mono ?_
              rintro e w34 ⟨rfl, hb⟩
              have H34 := Lib.hid (KS.keep H33.out hb)
              clear hb
              go_wp2_with fail
              refine (works_any _).mono ?_
              rintro e w35 ⟨rfl, hb⟩
              have H35 := Lib.hid (KS.keep H34.out hb)
              clear hb
              go_wp2_with fail
              go_ret
              exact ⟨rfl, (H35.out).1⟩
end Go.Proofs.Ytaeoocpiggebmaa.PtW
