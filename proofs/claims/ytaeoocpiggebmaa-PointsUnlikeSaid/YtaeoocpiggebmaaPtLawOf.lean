/- The law PointsOf: its walk. -/
import Derived.Test.YtaeoocpiggebmaaPtWorks
namespace Go.Proofs.Ytaeoocpiggebmaa.PtW
open Go.RowKit Go.Shelf Mem Gf FdW Rng
set_option linter.unusedVariables false

/-- A number of an argument. -/
abbrev B64 (n : Int) : Prop := -9223372036854775808 ≤ n ∧ n ≤ 9223372036854775807
/-- Row a is being spoilt; the rows of R lie elsewhere. -/
structure Sp (w0 : World) (p : Nat) (R : List Rw) (a : Rw) (n : Nat) (w : World) : Prop where
  pt : PT w0 p R w
  own : ∃ l : List UInt8, l.length = n ∧ Mem.Own w w0.heap.size 5 a.A a.c (l.map u8v)
  far : ∀ r ∈ R, ∀ g, a.A = some ⟨g, 0, none⟩ → r.A ≠ some ⟨g, 0, none⟩
theorem Sp.of {w0 w : World} {p : Nat} {R : List Rw} (h : PT w0 p R w) {a : Rw} (ha : a ∈ R) {R' : List Rw} (hR : ∀ r ∈ R', r ∈ R) (hid : ∀ r ∈ R', a.id ≠ r.id) : Sp w0 p R' a a.l.length w :=
  ⟨h.drop R' hR, ⟨a.l, rfl, h.rows a ha⟩, fun r hr g hg => h.apart a ha r (hR r hr) (hid r hr) g hg⟩
theorem Sp.set {w0 w : World} {p n k : Nat} {R : List Rw} {a : Rw} (h : Sp w0 p R a n w) (hk : k < n) :
    ∃ g, a.A = some ⟨g, 0, none⟩ ∧ (∃ v, w.cell? ⟨g, k, none⟩ = some v) ∧ w.frozen? ⟨g, k, none⟩ = false ∧ ∀ x : UInt8, Sp w0 p R a n (w.setCell ⟨g, k, none⟩ (.int .u8 (x.toNat : Int))) := by
  obtain ⟨l, hl, ho⟩ := h.own
  obtain ⟨g, hA, hg, _, hc, hz, hs⟩ := ho.at_ (k := k) (by rw [List.length_map, hl]; exact hk)
  refine ⟨g, hA, ⟨_, hc⟩, hz, fun x => ⟨⟨h.pt.p0, ?_, h.pt.below.trans (Below.setCell (Below.refl _ _) (by exact hg) _), fun r hr => ?_, h.pt.apart⟩, ⟨l.set k x, by rw [List.length_set]; exact hl, ?_⟩, h.far⟩⟩
  · exact h.pt.fld.fr (Fr.setCell (S := fun k => k = g) (Fr.refl _ w) (p := ⟨g, k, none⟩) (fun _ => rfl) _) (fun e => own_ne ho h.pt.fld g hA e.symm)
  · exact (h.pt.rows r hr).set_far (fun g' hg' e => h.far r hr g hA (by rw [hg', ← e]))
  · have := hs (.int .u8 (x.toNat : Int)); rw [List.map_set]; exact this
theorem ofL_max (n : Int) : ((ofL n).length : Int) ≤ 1000 := by unfold ofL; split <;> simp [pts_len]; omega
theorem cosR_max (r g : Int) : ((cosR r g).length : Int) ≤ 1000 := by
  unfold cosR; split
  · rename_i h
    obtain ⟨h1, h2, h3, h4, h5⟩ := h
    obtain ⟨R, rfl⟩ : ∃ R : Nat, r = (R : Int) := ⟨r.toNat, by omega⟩
    obtain ⟨G, rfl⟩ : ∃ G : Nat, g = (G : Int) := ⟨g.toNat, by omega⟩
    rw [cosL_len]
    have h6 : G ≤ 255 / (R + 1) := by
      have : ((255 / (R + 1) : Nat) : Int) = 255 / ((R : Int) + 1) := by simp
      omega
    have h7 := Nat.mul_le_mul_left (R + 1) h6
    have h8 := Nat.mul_div_le 255 (R + 1)
    simp only [Int.toNat_natCast]
    omega
  · simp
set_option maxRecDepth 100000 in
set_option maxHeartbeats 8000000 in
theorem of_law (w : World) (n al r gs : Int) : Calls Try.prog 3 #[.int .i64 n, .int .i64 al, .int .i64 r, .int .i64 gs] w fun e w' => e = .returned (.bool true) ∧ Below w.heap.size w w' := by
  go_enter Try.func3, Try.ntmps3
  go_wp2_with fail
  refine (newT _).mono ?_
  rintro e w1 ⟨rfl, h⟩
  have H1 := Lib.hid h
  clear h
  go_wp2_with fail
  refine (ofT H1.out 2 n).mono ?_
  rintro e w2 ⟨A2, c2, rfl, h⟩
  have H2 := Lib.hid h
  clear h
  go_wp2_with fail
  refine (rofT H2.out 3 n).mono ?_
  rintro e w3 ⟨A3, c3, rfl, h⟩
  have H3 := Lib.hid h
  clear h
  go_wp2_with fail
  refine (sprT H3.out 4 n al).mono ?_
  rintro e w4 ⟨A4, c4, rfl, h⟩
  have H4 := Lib.hid h
  clear h
  go_wp2_with fail
  refine (rsprT H4.out 5 n al).mono ?_
  rintro e w5 ⟨A5, c5, rfl, h⟩
  have H5 := Lib.hid h
  clear h
  go_wp2_with fail
  refine (cosT H5.out 6 r gs).mono ?_
  rintro e w6 ⟨A6, c6, rfl, h⟩
  have H6 := Lib.hid h
  clear h
  go_wp2_with fail
  refine (rcosT H6.out 7 r gs).mono ?_
  rintro e w7 ⟨A7, c7, rfl, h⟩
  have H7 := Lib.hid h
  clear h
  go_wp2_with fail
  refine (sameT H7.out (a := ⟨2, A2, ofL n, c2⟩) (b := ⟨3, A3, ofL n, c3⟩) (by simp) (by simp) _ rfl _ rfl true (sameB_yes rfl)).mono ?_
  rintro e w' ⟨rfl, rfl⟩
  go_wp2_with fail
  refine (sameT H7.out (a := ⟨4, A4, sprL n al, c4⟩) (b := ⟨5, A5, sprL n al, c5⟩) (by simp) (by simp) _ rfl _ rfl true (sameB_yes rfl)).mono ?_
  rintro e w' ⟨rfl, rfl⟩
  go_wp2_with fail
  refine (sameT H7.out (a := ⟨6, A6, cosR r gs, c6⟩) (b := ⟨7, A7, cosR r gs, c7⟩) (by simp) (by simp) _ rfl _ rfl true (sameB_yes rfl)).mono ?_
  rintro e w' ⟨rfl, rfl⟩
  have HSP := Lib.hid (Sp.of H7.out (a := ⟨2, A2, ofL n, c2⟩) (by simp) (R' := [⟨7, A7, cosR r gs, c7⟩, ⟨6, A6, cosR r gs, c6⟩, ⟨5, A5, sprL n al, c5⟩, ⟨4, A4, sprL n al, c4⟩, ⟨3, A3, ofL n, c3⟩]) (by simp) (by simp))
  dsimp only at HSP
  go_wp2_with fail
  go_loopw [22] (fun i wr => ∃ k : Nat, i = .int .i64 (k : Int) ∧ k ≤ (ofL n).length ∧ Sp w w.heap.size [⟨7, A7, cosR r gs, c7⟩, ⟨6, A6, cosR r gs, c6⟩, ⟨5, A5, sprL n al, c5⟩, ⟨4, A4, sprL n al, c4⟩, ⟨3, A3, ofL n, c3⟩] ⟨2, A2, ofL n, c2⟩ (ofL n).length wr) (fun i _ => (ofL n).length - (intOf i).toNat)
  case atStart => exact ⟨0, rfl, by omega, HSP.out⟩
  case round =>
    obtain ⟨k, rfl, hk, h⟩ := hrel
    have HS8 := Lib.hid h
    clear h HSP
    have hlm := ofL_max n
    obtain ⟨w8, rfl⟩ : ∃ w8 : World, w8 = wr := ⟨_, rfl⟩
    by_cases hkn : k < (ofL n).length
    · obtain ⟨g, hA, hc, hz, hset⟩ := HS8.out.set hkn
      dsimp only at hA
      subst hA
      obtain ⟨v, hc⟩ := hc
      have HX := Lib.hid (hset 77)
      have hki : (k : Int) < ((ofL n).length : Int) := by omega
      have hk0 : (0 : Int) ≤ (k : Int) := by omega
      clear hset
      go_wp2_with fail
      go_roundw
      case rel => exact ⟨k + 1, by simp, by omega, HX.out⟩
      case measure => simp [intOf]; omega
    have hkn2 : ¬ (k : Int) < ((ofL n).length : Int) := by omega
    have H8 := Lib.hid HS8.out.pt
    clear HS8 hk hkn hlm
    have HSP := Lib.hid (Sp.of H8.out (a := ⟨6, A6, cosR r gs, c6⟩) (by simp) (R' := [⟨7, A7, cosR r gs, c7⟩, ⟨5, A5, sprL n al, c5⟩, ⟨4, A4, sprL n al, c4⟩, ⟨3, A3, ofL n, c3⟩]) (by simp) (by simp))
    dsimp only at HSP
    go_wp2_with fail
    go_loopw [23] (fun i wr => ∃ k : Nat, i = .int .i64 (k : Int) ∧ k ≤ (cosR r gs).length ∧ Sp w w.heap.size [⟨7, A7, cosR r gs, c7⟩, ⟨5, A5, sprL n al, c5⟩, ⟨4, A4, sprL n al, c4⟩, ⟨3, A3, ofL n, c3⟩] ⟨6, A6, cosR r gs, c6⟩ (cosR r gs).length wr) (fun i _ => (cosR r gs).length - (intOf i).toNat)
    case atStart => exact ⟨0, rfl, by omega, HSP.out⟩
    case round =>
      obtain ⟨k, rfl, hk, h⟩ := hrel
      have HS9 := Lib.hid h
      clear h HSP
      have hlm := cosR_max r gs
      obtain ⟨w9, rfl⟩ : ∃ w9 : World, w9 = wr := ⟨_, rfl⟩
      by_cases hkn : k < (cosR r gs).length
      · obtain ⟨g, hA, hc, hz, hset⟩ := HS9.out.set hkn
        dsimp only at hA
        subst hA
        obtain ⟨v, hc⟩ := hc
        have HX := Lib.hid (hset 77)
        have hki : (k : Int) < ((cosR r gs).length : Int) := by omega
        have hk0 : (0 : Int) ≤ (k : Int) := by omega
        clear hset
        go_wp2_with fail
        go_roundw
        case rel => exact ⟨k + 1, by simp, by omega, HX.out⟩
        case measure => simp [intOf]; omega
      have hkn2 : ¬ (k : Int) < ((cosR r gs).length : Int) := by omega
      have H9 := Lib.hid HS9.out.pt
      clear HS9 hk hkn hlm
      go_wp2_with fail
      refine (ofT H9.out 10 n).mono ?_
      rintro e w10 ⟨A10, c10, rfl, h⟩
      have H10 := Lib.hid h
      clear h
      go_wp2_with fail
      refine (cosT H10.out 11 r gs).mono ?_
      rintro e w11 ⟨A11, c11, rfl, h⟩
      have H11 := Lib.hid h
      clear h
      go_wp2_with fail
      refine (sameT H11.out (a := ⟨10, A10, ofL n, c10⟩) (b := ⟨3, A3, ofL n, c3⟩) (by simp) (by simp) _ rfl _ rfl true (sameB_yes rfl)).mono ?_
      rintro e w' ⟨rfl, rfl⟩
      go_wp2_with fail
      refine (sameT H11.out (a := ⟨11, A11, cosR r gs, c11⟩) (b := ⟨7, A7, cosR r gs, c7⟩) (by simp) (by simp) _ rfl _ rfl true (sameB_yes rfl)).mono ?_
      rintro e w' ⟨rfl, rfl⟩
      go_wp2_with fail
      refine (works_any _).mono ?_
      rintro e w12 ⟨rfl, hb⟩
      have H12 := Lib.hid (PT.keep H11.out hb)
      clear hb
      go_wp2_with fail
      go_ret
      exact ⟨rfl, H12.out.below⟩
theorem of_claim (w : World) (n : Int) (_ : B64 n) (al : Int) (_ : B64 al) (r : Int) (_ : B64 r) (gs : Int) (_ : B64 gs) : Calls Try.prog 3 #[.int .i64 n, .int .i64 al, .int .i64 r, .int .i64 gs] w fun e w' => e = .returned (.bool true) ∧ Below w.heap.size w w' := of_law w n al r gs
end Go.Proofs.Ytaeoocpiggebmaa.PtW
