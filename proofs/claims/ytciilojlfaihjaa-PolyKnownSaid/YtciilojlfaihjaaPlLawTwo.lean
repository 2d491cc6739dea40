/- The law PolyTwo: its walk. -/
import Derived.Test.YtciilojlfaihjaaPlLawSt
namespace Go.Proofs.Ytciilojlfaihjaa.PlW
open Go.RowKit Mem Gf FdW Pl Rng
set_option linter.unusedVariables false
set_option maxRecDepth 100000 in
set_option maxHeartbeats 4000000 in
theorem polytwo_big0 (w : World) (A : Option Addr) (a : List UInt8) (ca : Nat) (hca : a.length ≤ ca) (hA : Bytes w w.heap.size A a) (B : Option Addr) (b : List UInt8) (cb : Nat) (hcb : b.length ≤ cb) (hB : Bytes w w.heap.size B b) (h : 40 < a.length) :
    Calls Try.prog 3 #[.slice A a.length ca, .slice B b.length cb] w fun e w' => e = .returned (.bool true) ∧ Below w.heap.size w w' := by
  have h0 : (40 : Int) < (a.length : Int) := by omega
  clear h
  go_enter Try.func3, Try.ntmps3
  go_wp2_with fail
  refine (works_any _).mono ?_
  rintro e w1 ⟨rfl, hb⟩
  have H1 := Lib.hid hb
  clear hb
  go_wp2_with fail
  go_ret
  exact ⟨rfl, H1.out⟩
set_option maxRecDepth 100000 in
set_option maxHeartbeats 4000000 in
theorem polytwo_big1 (w : World) (A : Option Addr) (a : List UInt8) (ca : Nat) (hca : a.length ≤ ca) (hA : Bytes w w.heap.size A a) (B : Option Addr) (b : List UInt8) (cb : Nat) (hcb : b.length ≤ cb) (hB : Bytes w w.heap.size B b) (h : a.length ≤ 40 ∧ 40 < b.length) :
    Calls Try.prog 3 #[.slice A a.length ca, .slice B b.length cb] w fun e w' => e = .returned (.bool true) ∧ Below w.heap.size w w' := by
  have h0 : ¬ (40 : Int) < (a.length : Int) := by omega
  have h1 : (40 : Int) < (b.length : Int) := by omega
  clear h
  go_enter Try.func3, Try.ntmps3
  go_wp2_with fail
  refine (works_any _).mono ?_
  rintro e w1 ⟨rfl, hb⟩
  have H1 := Lib.hid hb
  clear hb
  go_wp2_with fail
  go_ret
  exact ⟨rfl, H1.out⟩
set_option maxRecDepth 100000 in
set_option maxHeartbeats 4000000 in
theorem two_1 (w : World) (A : Option Addr) (a : List UInt8) (ca : Nat) (hca : a.length ≤ ca) (hA : Bytes w w.heap.size A a) (B : Option Addr) (b : List UInt8) (cb : Nat) (hcb : b.length ≤ cb) (hB : Bytes w w.heap.size B b) (h : a.length ≤ 40 ∧ b.length ≤ 40) (hb : len b = 0) :
    Calls Try.prog 3 #[.slice A a.length ca, .slice B b.length cb] w fun e w' => e = .returned (.bool true) ∧ Below w.heap.size w w' := by
  have hs0 : ¬ (40 : Int) < (a.length : Int) := by omega
  have hs1 : ¬ (40 : Int) < (b.length : Int) := by omega
  have H0 := Lib.hid (((PB.start w).arg 40 hB hcb h.2).arg 40 hA hca h.1)
  have HA := Lib.hid (And.intro hA hB)
  have HCC := Lib.hid (And.intro (And.intro hca hcb) h)
  have HB0 := Lib.hid hb
  clear h hA hB hb hca hcb
  go_enter Try.func3, Try.ntmps3
  go_wp2_with fail
  refine wp_region_noPanic ?_
  refine wp_region_held_drew (S := fun w' => Bytes w' w.heap.size A a ∧ Bytes w' w.heap.size B b) (by kernel_rfl) ?hs0 ?rg0
  case hs0 =>
    exact HA.out
  case rg0 =>
  intro hHeld
  refine wpAnyH_take (i := 0) (oi := { dst := some 25, op := Op.move (Operand.tmp 0), type := 22, pos := _, after := #[], guard := none }) (v := ?_) rfl (by kernel_rfl) (by kernel_rfl) (by kernel_rfl) (fun _ _ _ h => h) (Or.inl ⟨by rfl, ?_⟩) (by assumption) ?_
  rotate_left
  · intro w hSw
    try dsimp only at hSw
    go_simp
    try with_reducible rfl
  try simp only [Act.put, List.setIfInBounds_toArray, List.set_cons_zero, List.set_cons_succ]
  refine wpAnyH_take (i := 1) (oi := { dst := some 26, op := Op.convert 22 9 (Operand.tmp 25), type := 9, pos := _, after := #[{ on := 0, ground := Ground.data }], guard := none }) (v := ?_) rfl (by kernel_rfl) (by kernel_rfl) (by kernel_rfl) (fun _ _ _ h => h) (Or.inl ⟨by rfl, ?_⟩) (by assumption) ?_
  rotate_left
  · intro w hSw
    try dsimp only at hSw
    have es := run_str (P := Try.prog) w 22 5 Try.underlying22 Try.underlying5 hSw.1 ca 9 Try.underlying9
    go_simp
    try with_reducible rfl
  try simp only [Act.put, List.setIfInBounds_toArray, List.set_cons_zero, List.set_cons_succ]
  refine wpAnyH_take (i := 3) (oi := { dst := some 28, op := Op.move (Operand.tmp 1), type := 22, pos := _, after := #[{ on := 6, ground := Ground.gcOnly Departure.lateStores }], guard := none }) (v := ?_) rfl (by kernel_rfl) (by kernel_rfl) (by kernel_rfl) (fun _ _ _ h => h) (Or.inl ⟨by rfl, ?_⟩) (by assumption) ?_
  rotate_left
  · intro w hSw
    try dsimp only at hSw
    go_simp
    try with_reducible rfl
  try simp only [Act.put, List.setIfInBounds_toArray, List.set_cons_zero, List.set_cons_succ]
  refine wpAnyH_take (i := 4) (oi := { dst := some 29, op := Op.convert 22 9 (Operand.tmp 28), type := 9, pos := _, after := #[{ on := 3, ground := Ground.data }, { on := 6, ground := Ground.gcOnly Departure.lateStores }], guard := none }) (v := ?_) rfl (by kernel_rfl) (by kernel_rfl) (by kernel_rfl) (fun _ _ _ h => h) (Or.inl ⟨by rfl, ?_⟩) (by assumption) ?_
  rotate_left
  · intro w hSw
    try dsimp only at hSw
    have es := run_str (P := Try.prog) w 22 5 Try.underlying22 Try.underlying5 hSw.2 cb 9 Try.underlying9
    go_simp
    try with_reducible rfl
  try simp only [Act.put, List.setIfInBounds_toArray, List.set_cons_zero, List.set_cons_succ]
  refine wpAnyH_ready (rs := [2, 5]) (by kernel_rfl) (by simp) ?_
  refine AllReadyH.cons (o := { dst := some 27, op := Op.convert 9 22 (Operand.tmp 26), type := 22, pos := _, after := #[{ on := 1, ground := Ground.data }], guard := none }) rfl (fun K hK => ?_) (AllReadyH.cons (o := { dst := some 30, op := Op.convert 9 22 (Operand.tmp 29), type := 22, pos := _, after := #[{ on := 4, ground := Ground.data }, { on := 6, ground := Ground.gcOnly Departure.lateStores }], guard := none }) rfl (fun K hK => ?_) AllReadyH.nil)
  · rw [if_pos (by rfl)]
    refine wp_bytesOf _ 9 22 _ rfl 5 Try.underlying9 Try.underlying22 Try.underlying5 a rfl ?_
    intro cx wa hlen hrow hbw hsz
    have HX0 := Lib.hid (And.intro hlen (And.intro hrow (And.intro hbw hsz)))
    clear hlen hrow hbw hsz
    try dsimp only
    refine hK.out _ _ ?_ (fun hHeld => ?_)
    · try dsimp only
      exact ⟨hHeld.1.below (HX0.out.2.2.1.mono (Nat.le_trans (by simp) (Nat.le_refl _))), hHeld.2.below (HX0.out.2.2.1.mono (Nat.le_trans (by simp) (Nat.le_refl _)))⟩
    clear hK K
    try simp only [Act.put, List.setIfInBounds_toArray, List.set_cons_zero, List.set_cons_succ]
    refine wpAnyH_take (i := 6) (oi := { dst := some 5, op := Op.assign (Operand.tmp 27), type := 22, pos := _, after := #[{ on := 2, ground := Ground.data }, { on := 0, ground := Ground.phase }, { on := 1, ground := Ground.phase }, { on := 2, ground := Ground.phase }, { on := 3, ground := Ground.textOnly Departure.lateStores }, { on := 4, ground := Ground.textOnly Departure.lateStores }, { on := 5, ground := Ground.textOnly Departure.lateStores }], guard := none }) (v := ?_) rfl (by kernel_rfl) (by kernel_rfl) (by kernel_rfl) (fun _ _ _ h => h) (Or.inl ⟨by rfl, ?_⟩) (by assumption) ?_
    rotate_left
    · intro w hSw
      try dsimp only at hSw
      go_simp
      try with_reducible rfl
    try simp only [Act.put, List.setIfInBounds_toArray, List.set_cons_zero, List.set_cons_succ]
    refine wpAnyH_ready (rs := [5]) (by kernel_rfl) (by simp) ?_
    refine AllReadyH.cons (o := { dst := some 30, op := Op.convert 9 22 (Operand.tmp 29), type := 22, pos := _, after := #[{ on := 4, ground := Ground.data }, { on := 6, ground := Ground.gcOnly Departure.lateStores }], guard := none }) rfl (fun K hK => ?_) AllReadyH.nil
    rw [if_pos (by rfl)]
    refine wp_bytesOf _ 9 22 _ rfl 5 Try.underlying9 Try.underlying22 Try.underlying5 b rfl ?_
    intro cy w1 hlen hrow hbw hsz
    have HX1 := Lib.hid (And.intro hlen (And.intro hrow (And.intro hbw hsz)))
    clear hlen hrow hbw hsz
    try dsimp only
    refine hK.out _ _ ?_ (fun hHeld => ?_)
    · try dsimp only
      exact ⟨hHeld.1.below (HX1.out.2.2.1.mono (by have := HX0.out.2.2.1.size; simp at this; exact this)), hHeld.2.below (HX1.out.2.2.1.mono (by have := HX0.out.2.2.1.size; simp at this; exact this))⟩
    clear hK K
    try simp only [Act.put, List.setIfInBounds_toArray, List.set_cons_zero, List.set_cons_succ]
    refine wpAnyH_take (i := 7) (oi := { dst := some 6, op := Op.assign (Operand.tmp 30), type := 22, pos := _, after := #[{ on := 5, ground := Ground.data }, { on := 6, ground := Ground.chain }, { on := 0, ground := Ground.phase }, { on := 1, ground := Ground.phase }, { on := 2, ground := Ground.phase }, { on := 3, ground := Ground.phase }, { on := 4, ground := Ground.phase }, { on := 5, ground := Ground.phase }, { on := 6, ground := Ground.phase }], guard := none }) (v := ?_) rfl (by kernel_rfl) (by kernel_rfl) (by kernel_rfl) (fun _ _ _ h => h) (Or.inl ⟨by rfl, ?_⟩) (by assumption) ?_
    rotate_left
    · intro w hSw
      try dsimp only at hSw
      go_simp
      try with_reducible rfl
    try simp only [Act.put, List.setIfInBounds_toArray, List.set_cons_zero, List.set_cons_succ]
    refine wpAnyH_done (by kernel_rfl) ?_ _
    refine NoPanic.normal ?_
    have hb1 : Below w.heap.size w w1 := ((nextN (Mem.start w) 1).trans (HX0.out.2.2.1.mono (by simp))).trans (HX1.out.2.2.1.mono (by have := HX0.out.2.2.1.size; simp at this; exact this))
    have hP0 := ((((PB.start w).arg 40 HA.out.2 HCC.out.1.2 HCC.out.2.2).arg 40 HA.out.1 HCC.out.1.1 HCC.out.2.1).keep hb1)
    have hx0 := (HX0.out.2.1.cells)
    have hy0 := (HX1.out.2.1.cells)
    replace hx0 := (Cells.below hx0 HX1.out.2.2.1).up HX1.out.2.2.1.size
    have HP := Lib.hid ((hP0.row (A := some ⟨wa.heap.size, 0, none⟩) (l := b) (c := cy) 40 hy0 HX1.out.1 HCC.out.2.2).row (A := some ⟨w.heap.size, 0, none⟩) (l := a) (c := cx) 40 hx0 HX0.out.1 HCC.out.2.1)
    clear hb1 hP0 hx0 hy0 hHeld
    try simp only [World.heap_drew] at HP ⊢
    generalize hgx : (w.heap.size : Nat) = gx at HP ⊢
    generalize hgy : (wa.heap.size : Nat) = gy at HP ⊢
    have HG := Lib.hid (And.intro hgx hgy)
    clear hgx hgy
    go_wp2_with fail
    refine (newP HP.out).mono ?_
    rintro e w2 ⟨rfl, h⟩
    have H2 := Lib.hid h
    clear h
    go_wp2_with fail
    refine (div0R H2.out (b := b) (nb := 40) (by simp) _ _ rfl (by decide) HB0.out).mono ?_
    rintro e w3 ⟨rfl, h⟩
    have H3 := Lib.hid h
    clear h
    go_wp2_with fail
    refine (rdiv0R H3.out (b := b) (nb := 40) (by simp) _ _ rfl (by decide) HB0.out).mono ?_
    rintro e w4 ⟨rfl, h⟩
    have H4 := Lib.hid h
    clear h
    have HN := Lib.hid (PS.nilR H4.out)
    go_wp2_with fail
    refine (trimB HN.out (a := a) (na := 40) (by simp) _ rfl (by decide)).mono ?_
    rintro e w5 ⟨A5, c5, rfl, h, hoo, hbb⟩
    have HO5 := Lib.hid hoo
    clear hoo
    have BL5 := Lib.hid hbb
    have BO5 := HO5
    clear hbb
    have H5 := Lib.hid h
    clear h
    go_wp2_with fail
    refine (sameR H5.out (a := []) (na := 0) (by simp) _ (by first | rfl | simp) (b := []) (nb := 0) (by simp) _ (by first | rfl | simp) true (sameB_yes rfl)).mono ?_
    rintro e w' ⟨rfl, rfl⟩
    go_wp2_with fail
    refine (sameR H5.out (a := []) (na := 0) (by simp) _ (by first | rfl | simp) (b := []) (nb := 0) (by simp) _ (by first | rfl | simp) true (sameB_yes rfl)).mono ?_
    rintro e w' ⟨rfl, rfl⟩
    go_wp2_with fail
    refine (rtrimB H5.out (a := a) (na := 40) (by simp) _ rfl (by decide)).mono ?_
    rintro e w6 ⟨A6, c6, rfl, h, hoo, hbb⟩
    have HO6 := Lib.hid hoo
    clear hoo
    have BL6 := Lib.hid (BL5.out.trans (hbb.mono BL5.out.size))
    have BO6 := Lib.hid (BO5.out.keep hbb)
    clear hbb
    have H6 := Lib.hid h
    clear h
    go_wp2_with fail
    refine (sameR H6.out (a := trim a) (na := 40) (by simp) _ (by first | rfl | simp) (b := trim a) (nb := 40) (by simp) _ (by first | rfl | simp) true (sameB_yes rfl)).mono ?_
    rintro e w' ⟨rfl, rfl⟩
    go_wp2_with fail
    refine (degB H6.out (a := a) (na := 40) (by simp) _ rfl (by decide)).mono ?_
    rintro e w7 ⟨rfl, h, hbb⟩
    have BL7 := Lib.hid (BL6.out.trans (hbb.mono BL6.out.size))
    have BO7 := Lib.hid (BO6.out.keep hbb)
    clear hbb
    have H7 := Lib.hid h
    clear h
    go_wp2_with fail
    refine (rtrimB H7.out (a := a) (na := 40) (by simp) _ rfl (by decide)).mono ?_
    rintro e w8 ⟨A8, c8, rfl, h, hoo, hbb⟩
    have HO8 := Lib.hid hoo
    clear hoo
    have BL8 := Lib.hid (BL7.out.trans (hbb.mono BL7.out.size))
    have BO8 := Lib.hid (BO7.out.keep hbb)
    clear hbb
    have H8 := Lib.hid h
    clear h
    have hlen : ((trim a).length : Int) = (len a : Int) := rfl
    have hla : (len a : Int) ≤ 40 := by have := len_le a; have := HCC.out.2.1; omega
    rw [show (trim a).length = len a from rfl]
    have HTL := Lib.hid (show (trim a).length = len a from rfl)
    have BOL := Lib.hid BO8.out
    have BLL := Lib.hid BL8.out
    obtain ⟨tl, htl⟩ : ∃ tl, trim a = tl := ⟨_, rfl⟩
    rw [htl] at HTL BOL
    clear hlen
    generalize hm : len a = m at hla HTL ⊢
    clear hm htl
    go_wp2_with fail
    go_loopw [15] (fun i wr => ∃ (j : Nat) (l : List UInt8), i = .int .i64 (j : Int) ∧ j ≤ m ∧ l.length = m ∧ Mem.Own wr w4.heap.size 5 A5 c5 (l.map u8v) ∧ Below w4.heap.size w4 wr) (fun i _ => m - (intOf i).toNat)
    case atStart => exact ⟨0, tl, rfl, Nat.zero_le _, HTL.out, BOL.out, BLL.out⟩
    case round =>
      obtain ⟨j, l, rfl, hj, hl, ho, hbw⟩ := hrel
      have HR := Lib.hid (And.intro hl (And.intro ho hbw))
      clear hl ho hbw
      by_cases hjm : j < m
      · obtain ⟨gt, hAt, hgt, hgl, hct, hft, _⟩ := HR.out.2.1.at_ (k := j) (by rw [List.length_map, HR.out.1]; exact hjm)
        have HAT := Lib.hid hAt
        rw [hAt]
        have hjl : j < l.length := by rw [HR.out.1]; exact hjm
        have hct2 : wr.cell? ⟨gt, j, none⟩ = some (.int .u8 ((cf l j).toNat : Int)) := by rw [hct, List.getElem_map, cf_lt hjl]; rfl
        have HOW := Lib.hid (show Mem.Own wr w4.heap.size 5 (some ⟨gt, 0, none⟩) c5 (l.map u8v) from by rw [← hAt]; exact HR.out.2.1)
        have HGT := Lib.hid (And.intro hgt hjl)
        have hji : (j : Int) < (m : Int) := by omega
        clear hct hAt hgt hjl hjm
        generalize hxx : cf l j = xx at *
        have hx5 : (xx.toNat : Int) < 256 := by have := xx.toNat_lt; omega
        clear hxx
        go_wp2_with fail
        go_roundw
        case rel =>
          refine ⟨j + 1, l.set j (xx + 1), rfl, by omega, by rw [List.length_set]; exact HR.out.1, ?_, HR.out.2.2.setCell (p := ⟨gt, j, none⟩) HGT.out.1 _⟩
          exact own_set HOW.out HGT.out.2 _ (xx + 1) (by rw [UInt8.toNat_add]; simp)
        case measure => simp [intOf]; omega
      · obtain rfl : j = m := by omega
        have HPX := Lib.hid (PS.keep HN.out HR.out.2.2)
        clear hjm hj
        go_wp2_with fail
        refine (addR HPX.out (a := a) (na := 40) (by simp) _ rfl (b := b) (nb := 40) (by simp) _ rfl (by decide) (by decide) 40 (by decide)).mono ?_
        rintro e w9 ⟨A9, c9, rfl, h⟩
        have H9 := Lib.hid h
        clear h
        go_wp2_with fail
        refine (raddR H9.out (a := a) (na := 40) (by simp) _ rfl (b := b) (nb := 40) (by simp) _ rfl (by decide) (by decide) 40 (by decide)).mono ?_
        rintro e w10 ⟨A10, c10, rfl, h⟩
        have H10 := Lib.hid h
        clear h
        go_wp2_with fail
        refine (sameR H10.out (a := trim (add a b)) (na := 40) (by simp) _ (by first | rfl | simp) (b := trim (add a b)) (nb := 40) (by simp) _ (by first | rfl | simp) true (sameB_yes rfl)).mono ?_
        rintro e w' ⟨rfl, rfl⟩
        go_wp2_with fail
        refine (mulR H10.out (a := a) (na := 40) (by simp) _ rfl (b := b) (nb := 40) (by simp) _ rfl (by decide) 80 (by decide)).mono ?_
        rintro e w11 ⟨A11, c11, rfl, h⟩
        have H11 := Lib.hid h
        clear h
        go_wp2_with fail
        refine (rmulR H11.out (a := a) (na := 40) (by simp) _ rfl (b := b) (nb := 40) (by simp) _ rfl (by decide) 80 (by decide)).mono ?_
        rintro e w12 ⟨A12, c12, rfl, h⟩
        have H12 := Lib.hid h
        clear h
        go_wp2_with fail
        refine (sameR H12.out (a := trim (mulP a b)) (na := 80) (by simp) _ (by first | rfl | simp) (b := trim (mulP a b)) (nb := 80) (by simp) _ (by first | rfl | simp) true (sameB_yes rfl)).mono ?_
        rintro e w' ⟨rfl, rfl⟩
        go_wp2_with fail
        refine (sameR H12.out (a := a) (na := 40) (by simp) _ (by first | rfl | simp) (b := a) (nb := 40) (by simp) _ (by first | rfl | simp) true (sameB_yes rfl)).mono ?_
        rintro e w' ⟨rfl, rfl⟩
        go_wp2_with fail
        refine (sameR H12.out (a := b) (na := 40) (by simp) _ (by first | rfl | simp) (b := b) (nb := 40) (by simp) _ (by first | rfl | simp) true (sameB_yes rfl)).mono ?_
        rintro e w' ⟨rfl, rfl⟩
        go_wp2_with fail
        refine (works_any _).mono ?_
        rintro e w13 ⟨rfl, hb⟩
        have H13 := Lib.hid (PS.keep H12.out hb)
        clear hb
        go_wp2_with fail
        go_ret
        exact ⟨rfl, PS.below H13.out⟩
  · rw [if_pos (by rfl)]
    refine wp_bytesOf _ 9 22 _ rfl 5 Try.underlying9 Try.underlying22 Try.underlying5 b rfl ?_
    intro cy wa hlen hrow hbw hsz
    have HX0 := Lib.hid (And.intro hlen (And.intro hrow (And.intro hbw hsz)))
    clear hlen hrow hbw hsz
    try dsimp only
    refine hK.out _ _ ?_ (fun hHeld => ?_)
    · try dsimp only
      exact ⟨hHeld.1.below (HX0.out.2.2.1.mono (Nat.le_trans (by simp) (Nat.le_refl _))), hHeld.2.below (HX0.out.2.2.1.mono (Nat.le_trans (by simp) (Nat.le_refl _)))⟩
    clear hK K
    try simp only [Act.put, List.setIfInBounds_toArray, List.set_cons_zero, List.set_cons_succ]
    refine wpAnyH_ready (rs := [2]) (by kernel_rfl) (by simp) ?_
    refine AllReadyH.cons (o := { dst := some 27, op := Op.convert 9 22 (Operand.tmp 26), type := 22, pos := _, after := #[{ on := 1, ground := Ground.data }], guard := none }) rfl (fun K hK => ?_) AllReadyH.nil
    rw [if_pos (by rfl)]
    refine wp_bytesOf _ 9 22 _ rfl 5 Try.underlying9 Try.underlying22 Try.underlying5 a rfl ?_
    intro cx w1 hlen hrow hbw hsz
    have HX1 := Lib.hid (And.intro hlen (And.intro hrow (And.intro hbw hsz)))
    clear hlen hrow hbw hsz
    try dsimp only
    refine hK.out _ _ ?_ (fun hHeld => ?_)
    · try dsimp only
      exact ⟨hHeld.1.below (HX1.out.2.2.1.mono (by have := HX0.out.2.2.1.size; simp at this; exact this)), hHeld.2.below (HX1.out.2.2.1.mono (by have := HX0.out.2.2.1.size; simp at this; exact this))⟩
    clear hK K
    try simp only [Act.put, List.setIfInBounds_toArray, List.set_cons_zero, List.set_cons_succ]
    refine wpAnyH_take (i := 6) (oi := { dst := some 5, op := Op.assign (Operand.tmp 27), type := 22, pos := _, after := #[{ on := 2, ground := Ground.data }, { on := 0, ground := Ground.phase }, { on := 1, ground := Ground.phase }, { on := 2, ground := Ground.phase }, { on := 3, ground := Ground.textOnly Departure.lateStores }, { on := 4, ground := Ground.textOnly Departure.lateStores }, { on := 5, ground := Ground.textOnly Departure.lateStores }], guard := none }) (v := ?_) rfl (by kernel_rfl) (by kernel_rfl) (by kernel_rfl) (fun _ _ _ h => h) (Or.inl ⟨by rfl, ?_⟩) (by assumption) ?_
    rotate_left
    · intro w hSw
      try dsimp only at hSw
      go_simp
      try with_reducible rfl
    try simp only [Act.put, List.setIfInBounds_toArray, List.set_cons_zero, List.set_cons_succ]
    refine wpAnyH_take (i := 7) (oi := { dst := some 6, op := Op.assign (Operand.tmp 30), type := 22, pos := _, after := #[{ on := 5, ground := Ground.data }, { on := 6, ground := Ground.chain }, { on := 0, ground := Ground.phase }, { on := 1, ground := Ground.phase }, { on := 2, ground := Ground.phase }, { on := 3, ground := Ground.phase }, { on := 4, ground := Ground.phase }, { on := 5, ground := Ground.phase }, { on := 6, ground := Ground.phase }], guard := none }) (v := ?_) rfl (by kernel_rfl) (by kernel_rfl) (by kernel_rfl) (fun _ _ _ h => h) (Or.inl ⟨by rfl, ?_⟩) (by assumption) ?_
    rotate_left
    · intro w hSw
      try dsimp only at hSw
      go_simp
      try with_reducible rfl
    try simp only [Act.put, List.setIfInBounds_toArray, List.set_cons_zero, List.set_cons_succ]
    refine wpAnyH_done (by kernel_rfl) ?_ _
    refine NoPanic.normal ?_
    have hb1 : Below w.heap.size w w1 := ((nextN (Mem.start w) 1).trans (HX0.out.2.2.1.mono (by simp))).trans (HX1.out.2.2.1.mono (by have := HX0.out.2.2.1.size; simp at this; exact this))
    have hP0 := ((((PB.start w).arg 40 HA.out.2 HCC.out.1.2 HCC.out.2.2).arg 40 HA.out.1 HCC.out.1.1 HCC.out.2.1).keep hb1)
    have hx0 := (HX1.out.2.1.cells)
    have hy0 := (HX0.out.2.1.cells)
    replace hy0 := (Cells.below hy0 HX1.out.2.2.1).up HX1.out.2.2.1.size
    have HP := Lib.hid ((hP0.row (A := some ⟨w.heap.size, 0, none⟩) (l := b) (c := cy) 40 hy0 HX0.out.1 HCC.out.2.2).row (A := some ⟨wa.heap.size, 0, none⟩) (l := a) (c := cx) 40 hx0 HX1.out.1 HCC.out.2.1)
    clear hb1 hP0 hx0 hy0 hHeld
    try simp only [World.heap_drew] at HP ⊢
    generalize hgx : (wa.heap.size : Nat) = gx at HP ⊢
    generalize hgy : (w.heap.size : Nat) = gy at HP ⊢
    have HG := Lib.hid (And.intro hgx hgy)
    clear hgx hgy
    go_wp2_with fail
    refine (newP HP.out).mono ?_
    rintro e w2 ⟨rfl, h⟩
    have H2 := Lib.hid h
    clear h
    go_wp2_with fail
    refine (div0R H2.out (b := b) (nb := 40) (by simp) _ _ rfl (by decide) HB0.out).mono ?_
    rintro e w3 ⟨rfl, h⟩
    have H3 := Lib.hid h
    clear h
    go_wp2_with fail
    refine (rdiv0R H3.out (b := b) (nb := 40) (by simp) _ _ rfl (by decide) HB0.out).mono ?_
    rintro e w4 ⟨rfl, h⟩
    have H4 := Lib.hid h
    clear h
    have HN := Lib.hid (PS.nilR H4.out)
    go_wp2_with fail
    refine (trimB HN.out (a := a) (na := 40) (by simp) _ rfl (by decide)).mono ?_
    rintro e w5 ⟨A5, c5, rfl, h, hoo, hbb⟩
    have HO5 := Lib.hid hoo
    clear hoo
    have BL5 := Lib.hid hbb
    have BO5 := HO5
    clear hbb
    have H5 := Lib.hid h
    clear h
    go_wp2_with fail
    refine (sameR H5.out (a := []) (na := 0) (by simp) _ (by first | rfl | simp) (b := []) (nb := 0) (by simp) _ (by first | rfl | simp) true (sameB_yes rfl)).mono ?_
    rintro e w' ⟨rfl, rfl⟩
    go_wp2_with fail
    refine (sameR H5.out (a := []) (na := 0) (by simp) _ (by first | rfl | simp) (b := []) (nb := 0) (by simp) _ (by first | rfl | simp) true (sameB_yes rfl)).mono ?_
    rintro e w' ⟨rfl, rfl⟩
    go_wp2_with fail
    refine (rtrimB H5.out (a := a) (na := 40) (by simp) _ rfl (by decide)).mono ?_
    rintro e w6 ⟨A6, c6, rfl, h, hoo, hbb⟩
    have HO6 := Lib.hid hoo
    clear hoo
    have BL6 := Lib.hid (BL5.out.trans (hbb.mono BL5.out.size))
    have BO6 := Lib.hid (BO5.out.keep hbb)
    clear hbb
    have H6 := Lib.hid h
    clear h
    go_wp2_with fail
    refine (sameR H6.out (a := trim a) (na := 40) (by simp) _ (by first | rfl | simp) (b := trim a) (nb := 40) (by simp) _ (by first | rfl | simp) true (sameB_yes rfl)).mono ?_
    rintro e w' ⟨rfl, rfl⟩
    go_wp2_with fail
    refine (degB H6.out (a := a) (na := 40) (by simp) _ rfl (by decide)).mono ?_
    rintro e w7 ⟨rfl, h, hbb⟩
    have BL7 := Lib.hid (BL6.out.trans (hbb.mono BL6.out.size))
    have BO7 := Lib.hid (BO6.out.keep hbb)
    clear hbb
    have H7 := Lib.hid h
    clear h
    go_wp2_with fail
    refine (rtrimB H7.out (a := a) (na := 40) (by simp) _ rfl (by decide)).mono ?_
    rintro e w8 ⟨A8, c8, rfl, h, hoo, hbb⟩
    have HO8 := Lib.hid hoo
    clear hoo
    have BL8 := Lib.hid (BL7.out.trans (hbb.mono BL7.out.size))
    have BO8 := Lib.hid (BO7.out.keep hbb)
    clear hbb
    have H8 := Lib.hid h
    clear h
    have hlen : ((trim a).length : Int) = (len a : Int) := rfl
    have hla : (len a : Int) ≤ 40 := by have := len_le a; have := HCC.out.2.1; omega
    rw [show (trim a).length = len a from rfl]
    have HTL := Lib.hid (show (trim a).length = len a from rfl)
    have BOL := Lib.hid BO8.out
    have BLL := Lib.hid BL8.out
    obtain ⟨tl, htl⟩ : ∃ tl, trim a = tl := ⟨_, rfl⟩
    rw [htl] at HTL BOL
    clear hlen
    generalize hm : len a = m at hla HTL ⊢
    clear hm htl
    go_wp2_with fail
    go_loopw [15] (fun i wr => ∃ (j : Nat) (l : List UInt8), i = .int .i64 (j : Int) ∧ j ≤ m ∧ l.length = m ∧ Mem.Own wr w4.heap.size 5 A5 c5 (l.map u8v) ∧ Below w4.heap.size w4 wr) (fun i _ => m - (intOf i).toNat)
    case atStart => exact ⟨0, tl, rfl, Nat.zero_le _, HTL.out, BOL.out, BLL.out⟩
    case round =>
      obtain ⟨j, l, rfl, hj, hl, ho, hbw⟩ := hrel
      have HR := Lib.hid (And.intro hl (And.intro ho hbw))
      clear hl ho hbw
      by_cases hjm : j < m
      · obtain ⟨gt, hAt, hgt, hgl, hct, hft, _⟩ := HR.out.2.1.at_ (k := j) (by rw [List.length_map, HR.out.1]; exact hjm)
        have HAT := Lib.hid hAt
        rw [hAt]
        have hjl : j < l.length := by rw [HR.out.1]; exact hjm
        have hct2 : wr.cell? ⟨gt, j, none⟩ = some (.int .u8 ((cf l j).toNat : Int)) := by rw [hct, List.getElem_map, cf_lt hjl]; rfl
        have HOW := Lib.hid (show Mem.Own wr w4.heap.size 5 (some ⟨gt, 0, none⟩) c5 (l.map u8v) from by rw [← hAt]; exact HR.out.2.1)
        have HGT := Lib.hid (And.intro hgt hjl)
        have hji : (j : Int) < (m : Int) := by omega
        clear hct hAt hgt hjl hjm
        generalize hxx : cf l j = xx at *
        have hx5 : (xx.toNat : Int) < 256 := by have := xx.toNat_lt; omega
        clear hxx
        go_wp2_with fail
        go_roundw
        case rel =>
          refine ⟨j + 1, l.set j (xx + 1), rfl, by omega, by rw [List.length_set]; exact HR.out.1, ?_, HR.out.2.2.setCell (p := ⟨gt, j, none⟩) HGT.out.1 _⟩
          exact own_set HOW.out HGT.out.2 _ (xx + 1) (by rw [UInt8.toNat_add]; simp)
        case measure => simp [intOf]; omega
      · obtain rfl : j = m := by omega
        have HPX := Lib.hid (PS.keep HN.out HR.out.2.2)
        clear hjm hj
        go_wp2_with fail
        refine (addR HPX.out (a := a) (na := 40) (by simp) _ rfl (b := b) (nb := 40) (by simp) _ rfl (by decide) (by decide) 40 (by decide)).mono ?_
        rintro e w9 ⟨A9, c9, rfl, h⟩
        have H9 := Lib.hid h
        clear h
        go_wp2_with fail
        refine (raddR H9.out (a := a) (na := 40) (by simp) _ rfl (b := b) (nb := 40) (by simp) _ rfl (by decide) (by decide) 40 (by decide)).mono ?_
        rintro e w10 ⟨A10, c10, rfl, h⟩
        have H10 := Lib.hid h
        clear h
        go_wp2_with fail
        refine (sameR H10.out (a := trim (add a b)) (na := 40) (by simp) _ (by first | rfl | simp) (b := trim (add a b)) (nb := 40) (by simp) _ (by first | rfl | simp) true (sameB_yes rfl)).mono ?_
        rintro e w' ⟨rfl, rfl⟩
        go_wp2_with fail
        refine (mulR H10.out (a := a) (na := 40) (by simp) _ rfl (b := b) (nb := 40) (by simp) _ rfl (by decide) 80 (by decide)).mono ?_
        rintro e w11 ⟨A11, c11, rfl, h⟩
        have H11 := Lib.hid h
        clear h
        go_wp2_with fail
        refine (rmulR H11.out (a := a) (na := 40) (by simp) _ rfl (b := b) (nb := 40) (by simp) _ rfl (by decide) 80 (by decide)).mono ?_
        rintro e w12 ⟨A12, c12, rfl, h⟩
        have H12 := Lib.hid h
        clear h
        go_wp2_with fail
        refine (sameR H12.out (a := trim (mulP a b)) (na := 80) (by simp) _ (by first | rfl | simp) (b := trim (mulP a b)) (nb := 80) (by simp) _ (by first | rfl | simp) true (sameB_yes rfl)).mono ?_
        rintro e w' ⟨rfl, rfl⟩
        go_wp2_with fail
        refine (sameR H12.out (a := a) (na := 40) (by simp) _ (by first | rfl | simp) (b := a) (nb := 40) (by simp) _ (by first | rfl | simp) true (sameB_yes rfl)).mono ?_
        rintro e w' ⟨rfl, rfl⟩
        go_wp2_with fail
        refine (sameR H12.out (a := b) (na := 40) (by simp) _ (by first | rfl | simp) (b := b) (nb := 40) (by simp) _ (by first | rfl | simp) true (sameB_yes rfl)).mono ?_
        rintro e w' ⟨rfl, rfl⟩
        go_wp2_with fail
        refine (works_any _).mono ?_
        rintro e w13 ⟨rfl, hb⟩
        have H13 := Lib.hid (PS.keep H12.out hb)
        clear hb
        go_wp2_with fail
        go_ret
        exact ⟨rfl, PS.below H13.out⟩
set_option maxRecDepth 100000 in
set_option maxHeartbeats 4000000 in
theorem two_0 (w : World) (A : Option Addr) (a : List UInt8) (ca : Nat) (hca : a.length ≤ ca) (hA : Bytes w w.heap.size A a) (B : Option Addr) (b : List UInt8) (cb : Nat) (hcb : b.length ≤ cb) (hB : Bytes w w.heap.size B b) (h : a.length ≤ 40 ∧ b.length ≤ 40) (hb : len b ≠ 0) :
    Calls Try.prog 3 #[.slice A a.length ca, .slice B b.length cb] w fun e w' => e = .returned (.bool true) ∧ Below w.heap.size w w' := by
  have hs0 : ¬ (40 : Int) < (a.length : Int) := by omega
  have hs1 : ¬ (40 : Int) < (b.length : Int) := by omega
  have H0 := Lib.hid (((PB.start w).arg 40 hB hcb h.2).arg 40 hA hca h.1)
  have HA := Lib.hid (And.intro hA hB)
  have HCC := Lib.hid (And.intro (And.intro hca hcb) h)
  have HB0 := Lib.hid hb
  clear h hA hB hb hca hcb
  go_enter Try.func3, Try.ntmps3
  go_wp2_with fail
  refine wp_region_noPanic ?_
  refine wp_region_held_drew (S := fun w' => Bytes w' w.heap.size A a ∧ Bytes w' w.heap.size B b) (by kernel_rfl) ?hs0 ?rg0
  case hs0 =>
    exact HA.out
  case rg0 =>
  intro hHeld
  refine wpAnyH_take (i := 0) (oi := { dst := some 25, op := Op.move (Operand.tmp 0), type := 22, pos := _, after := #[], guard := none }) (v := ?_) rfl (by kernel_rfl) (by kernel_rfl) (by kernel_rfl) (fun _ _ _ h => h) (Or.inl ⟨by rfl, ?_⟩) (by assumption) ?_
  rotate_left
  · intro w hSw
    try dsimp only at hSw
    go_simp
    try with_reducible rfl
  try simp only [Act.put, List.setIfInBounds_toArray, List.set_cons_zero, List.set_cons_succ]
  refine wpAnyH_take (i := 1) (oi := { dst := some 26, op := Op.convert 22 9 (Operand.tmp 25), type := 9, pos := _, after := #[{ on := 0, ground := Ground.data }], guard := none }) (v := ?_) rfl (by kernel_rfl) (by kernel_rfl) (by kernel_rfl) (fun _ _ _ h => h) (Or.inl ⟨by rfl, ?_⟩) (by assumption) ?_
  rotate_left
  · intro w hSw
    try dsimp only at hSw
    have es := run_str (P := Try.prog) w 22 5 Try.underlying22 Try.underlying5 hSw.1 ca 9 Try.underlying9
    go_simp
    try with_reducible rfl
  try simp only [Act.put, List.setIfInBounds_toArray, List.set_cons_zero, List.set_cons_succ]
  refine wpAnyH_take (i := 3) (oi := { dst := some 28, op := Op.move (Operand.tmp 1), type := 22, pos := _, after := #[{ on := 6, ground := Ground.gcOnly Departure.lateStores }], guard := none }) (v := ?_) rfl (by kernel_rfl) (by kernel_rfl) (by kernel_rfl) (fun _ _ _ h => h) (Or.inl ⟨by rfl, ?_⟩) (by assumption) ?_
  rotate_left
  · intro w hSw
    try dsimp only at hSw
    go_simp
    try with_reducible rfl
  try simp only [Act.put, List.setIfInBounds_toArray, List.set_cons_zero, List.set_cons_succ]
  refine wpAnyH_take (i := 4) (oi := { dst := some 29, op := Op.convert 22 9 (Operand.tmp 28), type := 9, pos := _, after := #[{ on := 3, ground := Ground.data }, { on := 6, ground := Ground.gcOnly Departure.lateStores }], guard := none }) (v := ?_) rfl (by kernel_rfl) (by kernel_rfl) (by kernel_rfl) (fun _ _ _ h => h) (Or.inl ⟨by rfl, ?_⟩) (by assumption) ?_
  rotate_left
  · intro w hSw
    try dsimp only at hSw
    have es := run_str (P := Try.prog) w 22 5 Try.underlying22 Try.underlying5 hSw.2 cb 9 Try.underlying9
    go_simp
    try with_reducible rfl
  try simp only [Act.put, List.setIfInBounds_toArray, List.set_cons_zero, List.set_cons_succ]
  refine wpAnyH_ready (rs := [2, 5]) (by kernel_rfl) (by simp) ?_
  refine AllReadyH.cons (o := { dst := some 27, op := Op.convert 9 22 (Operand.tmp 26), type := 22, pos := _, after := #[{ on := 1, ground := Ground.data }], guard := none }) rfl (fun K hK => ?_) (AllReadyH.cons (o := { dst := some 30, op := Op.convert 9 22 (Operand.tmp 29), type := 22, pos := _, after := #[{ on := 4, ground := Ground.data }, { on := 6, ground := Ground.gcOnly Departure.lateStores }], guard := none }) rfl (fun K hK => ?_) AllReadyH.nil)
  · rw [if_pos (by rfl)]
    refine wp_bytesOf _ 9 22 _ rfl 5 Try.underlying9 Try.underlying22 Try.underlying5 a rfl ?_
    intro cx wa hlen hrow hbw hsz
    have HX0 := Lib.hid (And.intro hlen (And.intro hrow (And.intro hbw hsz)))
    clear hlen hrow hbw hsz
    try dsimp only
    refine hK.out _ _ ?_ (fun hHeld => ?_)
    · try dsimp only
      exact ⟨hHeld.1.below (HX0.out.2.2.1.mono (Nat.le_trans (by simp) (Nat.le_refl _))), hHeld.2.below (HX0.out.2.2.1.mono (Nat.le_trans (by simp) (Nat.le_refl _)))⟩
    clear hK K
    try simp only [Act.put, List.setIfInBounds_toArray, List.set_cons_zero, List.set_cons_succ]
    refine wpAnyH_take (i := 6) (oi := { dst := some 5, op := Op.assign (Operand.tmp 27), type := 22, pos := _, after := #[{ on := 2, ground := Ground.data }, { on := 0, ground := Ground.phase }, { on := 1, ground := Ground.phase }, { on := 2, ground := Ground.phase }, { on := 3, ground := Ground.textOnly Departure.lateStores }, { on := 4, ground := Ground.textOnly Departure.lateStores }, { on := 5, ground := Ground.textOnly Departure.lateStores }], guard := none }) (v := ?_) rfl (by kernel_rfl) (by kernel_rfl) (by kernel_rfl) (fun _ _ _ h => h) (Or.inl ⟨by rfl, ?_⟩) (by assumption) ?_
    rotate_left
    · intro w hSw
      try dsimp only at hSw
      go_simp
      try with_reducible rfl
    try simp only [Act.put, List.setIfInBounds_toArray, List.set_cons_zero, List.set_cons_succ]
    refine wpAnyH_ready (rs := [5]) (by kernel_rfl) (by simp) ?_
    refine AllReadyH.cons (o := { dst := some 30, op := Op.convert 9 22 (Operand.tmp 29), type := 22, pos := _, after := #[{ on := 4, ground := Ground.data }, { on := 6, ground := Ground.gcOnly Departure.lateStores }], guard := none }) rfl (fun K hK => ?_) AllReadyH.nil
    rw [if_pos (by rfl)]
    refine wp_bytesOf _ 9 22 _ rfl 5 Try.underlying9 Try.underlying22 Try.underlying5 b rfl ?_
    intro cy w1 hlen hrow hbw hsz
    have HX1 := Lib.hid (And.intro hlen (And.intro hrow (And.intro hbw hsz)))
    clear hlen hrow hbw hsz
    try dsimp only
    refine hK.out _ _ ?_ (fun hHeld => ?_)
    · try dsimp only
      exact ⟨hHeld.1.below (HX1.out.2.2.1.mono (by have := HX0.out.2.2.1.size; simp at this; exact this)), hHeld.2.below (HX1.out.2.2.1.mono (by have := HX0.out.2.2.1.size; simp at this; exact this))⟩
    clear hK K
    try simp only [Act.put, List.setIfInBounds_toArray, List.set_cons_zero, List.set_cons_succ]
    refine wpAnyH_take (i := 7) (oi := { dst := some 6, op := Op.assign (Operand.tmp 30), type := 22, pos := _, after := #[{ on := 5, ground := Ground.data }, { on := 6, ground := Ground.chain }, { on := 0, ground := Ground.phase }, { on := 1, ground := Ground.phase }, { on := 2, ground := Ground.phase }, { on := 3, ground := Ground.phase }, { on := 4, ground := Ground.phase }, { on := 5, ground := Ground.phase }, { on := 6, ground := Ground.phase }], guard := none }) (v := ?_) rfl (by kernel_rfl) (by kernel_rfl) (by kernel_rfl) (fun _ _ _ h => h) (Or.inl ⟨by rfl, ?_⟩) (by assumption) ?_
    rotate_left
    · intro w hSw
      try dsimp only at hSw
      go_simp
      try with_reducible rfl
    try simp only [Act.put, List.setIfInBounds_toArray, List.set_cons_zero, List.set_cons_succ]
    refine wpAnyH_done (by kernel_rfl) ?_ _
    refine NoPanic.normal ?_
    have hb1 : Below w.heap.size w w1 := ((nextN (Mem.start w) 1).trans (HX0.out.2.2.1.mono (by simp))).trans (HX1.out.2.2.1.mono (by have := HX0.out.2.2.1.size; simp at this; exact this))
    have hP0 := ((((PB.start w).arg 40 HA.out.2 HCC.out.1.2 HCC.out.2.2).arg 40 HA.out.1 HCC.out.1.1 HCC.out.2.1).keep hb1)
    have hx0 := (HX0.out.2.1.cells)
    have hy0 := (HX1.out.2.1.cells)
    replace hx0 := (Cells.below hx0 HX1.out.2.2.1).up HX1.out.2.2.1.size
    have HP := Lib.hid ((hP0.row (A := some ⟨wa.heap.size, 0, none⟩) (l := b) (c := cy) 40 hy0 HX1.out.1 HCC.out.2.2).row (A := some ⟨w.heap.size, 0, none⟩) (l := a) (c := cx) 40 hx0 HX0.out.1 HCC.out.2.1)
    clear hb1 hP0 hx0 hy0 hHeld
    try simp only [World.heap_drew] at HP ⊢
    generalize hgx : (w.heap.size : Nat) = gx at HP ⊢
    generalize hgy : (wa.heap.size : Nat) = gy at HP ⊢
    have HG := Lib.hid (And.intro hgx hgy)
    clear hgx hgy
    go_wp2_with fail
    refine (newP HP.out).mono ?_
    rintro e w2 ⟨rfl, h⟩
    have H2 := Lib.hid h
    clear h
    go_wp2_with fail
    refine (divR H2.out (a := a) (na := 40) (by simp) _ rfl (b := b) (nb := 40) (by simp) _ rfl (by decide) (by decide) HB0.out 40 (by decide)).mono ?_
    rintro e w3 ⟨q3, r3, A3, c3, B3, d3, hd, rfl, h⟩
    have HD := Lib.hid hd
    clear hd
    have H3 := Lib.hid h
    clear h
    go_wp2_with fail
    refine (rdivR H3.out (a := a) (na := 40) (by simp) _ rfl (b := b) (nb := 40) (by simp) _ rfl (by decide) (by decide) HB0.out 40 (by decide)).mono ?_
    rintro e w4 ⟨q4, r4, A4, c4, B4, d4, hd, rfl, h⟩
    have HD2 := Lib.hid hd
    clear hd
    have H4 := Lib.hid h
    clear h
    go_wp2_with fail
    refine (trimB H4.out (a := a) (na := 40) (by simp) _ rfl (by decide)).mono ?_
    rintro e w5 ⟨A5, c5, rfl, h, hoo, hbb⟩
    have HO5 := Lib.hid hoo
    clear hoo
    have BL5 := Lib.hid hbb
    have BO5 := HO5
    clear hbb
    have H5 := Lib.hid h
    clear h
    go_wp2_with fail
    refine (sameR H5.out (a := trim q3) (na := 40) (by simp) _ (by first | rfl | simp) (b := trim q4) (nb := 40) (by simp) _ (by first | rfl | simp) true (sameB_yes (trim_congr (div_only HD.out HD2.out).1))).mono ?_
    rintro e w' ⟨rfl, rfl⟩
    go_wp2_with fail
    refine (sameR H5.out (a := trim r3) (na := 40) (by simp) _ (by first | rfl | simp) (b := trim r4) (nb := 40) (by simp) _ (by first | rfl | simp) true (sameB_yes (trim_congr (div_only HD.out HD2.out).2))).mono ?_
    rintro e w' ⟨rfl, rfl⟩
    go_wp2_with fail
    refine (rtrimB H5.out (a := a) (na := 40) (by simp) _ rfl (by decide)).mono ?_
    rintro e w6 ⟨A6, c6, rfl, h, hoo, hbb⟩
    have HO6 := Lib.hid hoo
    clear hoo
    have BL6 := Lib.hid (BL5.out.trans (hbb.mono BL5.out.size))
    have BO6 := Lib.hid (BO5.out.keep hbb)
    clear hbb
    have H6 := Lib.hid h
    clear h
    go_wp2_with fail
    refine (sameR H6.out (a := trim a) (na := 40) (by simp) _ (by first | rfl | simp) (b := trim a) (nb := 40) (by simp) _ (by first | rfl | simp) true (sameB_yes rfl)).mono ?_
    rintro e w' ⟨rfl, rfl⟩
    go_wp2_with fail
    refine (degB H6.out (a := a) (na := 40) (by simp) _ rfl (by decide)).mono ?_
    rintro e w7 ⟨rfl, h, hbb⟩
    have BL7 := Lib.hid (BL6.out.trans (hbb.mono BL6.out.size))
    have BO7 := Lib.hid (BO6.out.keep hbb)
    clear hbb
    have H7 := Lib.hid h
    clear h
    go_wp2_with fail
    refine (rtrimB H7.out (a := a) (na := 40) (by simp) _ rfl (by decide)).mono ?_
    rintro e w8 ⟨A8, c8, rfl, h, hoo, hbb⟩
    have HO8 := Lib.hid hoo
    clear hoo
    have BL8 := Lib.hid (BL7.out.trans (hbb.mono BL7.out.size))
    have BO8 := Lib.hid (BO7.out.keep hbb)
    clear hbb
    have H8 := Lib.hid h
    clear h
    have hlen : ((trim a).length : Int) = (len a : Int) := rfl
    have hla : (len a : Int) ≤ 40 := by have := len_le a; have := HCC.out.2.1; omega
    rw [show (trim a).length = len a from rfl]
    have HTL := Lib.hid (show (trim a).length = len a from rfl)
    have BOL := Lib.hid BO8.out
    have BLL := Lib.hid BL8.out
    obtain ⟨tl, htl⟩ : ∃ tl, trim a = tl := ⟨_, rfl⟩
    rw [htl] at HTL BOL
    clear hlen
    generalize hm : len a = m at hla HTL ⊢
    clear hm htl
    go_wp2_with fail
    go_loopw [15] (fun i wr => ∃ (j : Nat) (l : List UInt8), i = .int .i64 (j : Int) ∧ j ≤ m ∧ l.length = m ∧ Mem.Own wr w4.heap.size 5 A5 c5 (l.map u8v) ∧ Below w4.heap.size w4 wr) (fun i _ => m - (intOf i).toNat)
    case atStart => exact ⟨0, tl, rfl, Nat.zero_le _, HTL.out, BOL.out, BLL.out⟩
    case round =>
      obtain ⟨j, l, rfl, hj, hl, ho, hbw⟩ := hrel
      have HR := Lib.hid (And.intro hl (And.intro ho hbw))
      clear hl ho hbw
      by_cases hjm : j < m
      · obtain ⟨gt, hAt, hgt, hgl, hct, hft, _⟩ := HR.out.2.1.at_ (k := j) (by rw [List.length_map, HR.out.1]; exact hjm)
        have HAT := Lib.hid hAt
        rw [hAt]
        have hjl : j < l.length := by rw [HR.out.1]; exact hjm
        have hct2 : wr.cell? ⟨gt, j, none⟩ = some (.int .u8 ((cf l j).toNat : Int)) := by rw [hct, List.getElem_map, cf_lt hjl]; rfl
        have HOW := Lib.hid (show Mem.Own wr w4.heap.size 5 (some ⟨gt, 0, none⟩) c5 (l.map u8v) from by rw [← hAt]; exact HR.out.2.1)
        have HGT := Lib.hid (And.intro hgt hjl)
        have hji : (j : Int) < (m : Int) := by omega
        clear hct hAt hgt hjl hjm
        generalize hxx : cf l j = xx at *
        have hx5 : (xx.toNat : Int) < 256 := by have := xx.toNat_lt; omega
        clear hxx
        go_wp2_with fail
        go_roundw
        case rel =>
          refine ⟨j + 1, l.set j (xx + 1), rfl, by omega, by rw [List.length_set]; exact HR.out.1, ?_, HR.out.2.2.setCell (p := ⟨gt, j, none⟩) HGT.out.1 _⟩
          exact own_set HOW.out HGT.out.2 _ (xx + 1) (by rw [UInt8.toNat_add]; simp)
        case measure => simp [intOf]; omega
      · obtain rfl : j = m := by omega
        have HPX := Lib.hid (PS.keep H4.out HR.out.2.2)
        clear hjm hj
        go_wp2_with fail
        refine (addR HPX.out (a := a) (na := 40) (by simp) _ rfl (b := b) (nb := 40) (by simp) _ rfl (by decide) (by decide) 40 (by decide)).mono ?_
        rintro e w9 ⟨A9, c9, rfl, h⟩
        have H9 := Lib.hid h
        clear h
        go_wp2_with fail
        refine (raddR H9.out (a := a) (na := 40) (by simp) _ rfl (b := b) (nb := 40) (by simp) _ rfl (by decide) (by decide) 40 (by decide)).mono ?_
        rintro e w10 ⟨A10, c10, rfl, h⟩
        have H10 := Lib.hid h
        clear h
        go_wp2_with fail
        refine (sameR H10.out (a := trim (add a b)) (na := 40) (by simp) _ (by first | rfl | simp) (b := trim (add a b)) (nb := 40) (by simp) _ (by first | rfl | simp) true (sameB_yes rfl)).mono ?_
        rintro e w' ⟨rfl, rfl⟩
        go_wp2_with fail
        refine (mulR H10.out (a := a) (na := 40) (by simp) _ rfl (b := b) (nb := 40) (by simp) _ rfl (by decide) 80 (by decide)).mono ?_
        rintro e w11 ⟨A11, c11, rfl, h⟩
        have H11 := Lib.hid h
        clear h
        go_wp2_with fail
        refine (rmulR H11.out (a := a) (na := 40) (by simp) _ rfl (b := b) (nb := 40) (by simp) _ rfl (by decide) 80 (by decide)).mono ?_
        rintro e w12 ⟨A12, c12, rfl, h⟩
        have H12 := Lib.hid h
        clear h
        go_wp2_with fail
        refine (sameR H12.out (a := trim (mulP a b)) (na := 80) (by simp) _ (by first | rfl | simp) (b := trim (mulP a b)) (nb := 80) (by simp) _ (by first | rfl | simp) true (sameB_yes rfl)).mono ?_
        rintro e w' ⟨rfl, rfl⟩
        go_wp2_with fail
        refine (sameR H12.out (a := a) (na := 40) (by simp) _ (by first | rfl | simp) (b := a) (nb := 40) (by simp) _ (by first | rfl | simp) true (sameB_yes rfl)).mono ?_
        rintro e w' ⟨rfl, rfl⟩
        go_wp2_with fail
        refine (sameR H12.out (a := b) (na := 40) (by simp) _ (by first | rfl | simp) (b := b) (nb := 40) (by simp) _ (by first | rfl | simp) true (sameB_yes rfl)).mono ?_
        rintro e w' ⟨rfl, rfl⟩
        go_wp2_with fail
        refine (works_any _).mono ?_
        rintro e w13 ⟨rfl, hb⟩
        have H13 := Lib.hid (PS.keep H12.out hb)
        clear hb
        go_wp2_with fail
        go_ret
        exact ⟨rfl, PS.below H13.out⟩
  · rw [if_pos (by rfl)]
    refine wp_bytesOf _ 9 22 _ rfl 5 Try.underlying9 Try.underlying22 Try.underlying5 b rfl ?_
    intro cy wa hlen hrow hbw hsz
    have HX0 := Lib.hid (And.intro hlen (And.intro hrow (And.intro hbw hsz)))
    clear hlen hrow hbw hsz
    try dsimp only
    refine hK.out _ _ ?_ (fun hHeld => ?_)
    · try dsimp only
      exact ⟨hHeld.1.below (HX0.out.2.2.1.mono (Nat.le_trans (by simp) (Nat.le_refl _))), hHeld.2.below (HX0.out.2.2.1.mono (Nat.le_trans (by simp) (Nat.le_refl _)))⟩
    clear hK K
    try simp only [Act.put, List.setIfInBounds_toArray, List.set_cons_zero, List.set_cons_succ]
    refine wpAnyH_ready (rs := [2]) (by kernel_rfl) (by simp) ?_
    refine AllReadyH.cons (o := { dst := some 27, op := Op.convert 9 22 (Operand.tmp 26), type := 22, pos := _, after := #[{ on := 1, ground := Ground.data }], guard := none }) rfl (fun K hK => ?_) AllReadyH.nil
    rw [if_pos (by rfl)]
    refine wp_bytesOf _ 9 22 _ rfl 5 Try.underlying9 Try.underlying22 Try.underlying5 a rfl ?_
    intro cx w1 hlen hrow hbw hsz
    have HX1 := Lib.hid (And.intro hlen (And.intro hrow (And.intro hbw hsz)))
    clear hlen hrow hbw hsz
    try dsimp only
    refine hK.out _ _ ?_ (fun hHeld => ?_)
    · try dsimp only
      exact ⟨hHeld.1.below (HX1.out.2.2.1.mono (by have := HX0.out.2.2.1.size; simp at this; exact this)), hHeld.2.below (HX1.out.2.2.1.mono (by have := HX0.out.2.2.1.size; simp at this; exact this))⟩
    clear hK K
    try simp only [Act.put, List.setIfInBounds_toArray, List.set_cons_zero, List.set_cons_succ]
    refine wpAnyH_take (i := 6) (oi := { dst := some 5, op := Op.assign (Operand.tmp 27), type := 22, pos := _, after := #[{ on := 2, ground := Ground.data }, { on := 0, ground := Ground.phase }, { on := 1, ground := Ground.phase }, { on := 2, ground := Ground.phase }, { on := 3, ground := Ground.textOnly Departure.lateStores }, { on := 4, ground := Ground.textOnly Departure.lateStores }, { on := 5, ground := Ground.textOnly Departure.lateStores }], guard := none }) (v := ?_) rfl (by kernel_rfl) (by kernel_rfl) (by kernel_rfl) (fun _ _ _ h => h) (Or.inl ⟨by rfl, ?_⟩) (by assumption) ?_
    rotate_left
    · intro w hSw
      try dsimp only at hSw
      go_simp
      try with_reducible rfl
    try simp only [Act.put, List.setIfInBounds_toArray, List.set_cons_zero, List.set_cons_succ]
    refine wpAnyH_take (i := 7) (oi := { dst := some 6, op := Op.assign (Operand.tmp 30), type := 22, pos := _, after := #[{ on := 5, ground := Ground.data }, { on := 6, ground := Ground.chain }, { on := 0, ground := Ground.phase }, { on := 1, ground := Ground.phase }, { on := 2, ground := Ground.phase }, { on := 3, ground := Ground.phase }, { on := 4, ground := Ground.phase }, { on := 5, ground := Ground.phase }, { on := 6, ground := Ground.phase }], guard := none }) (v := ?_) rfl (by kernel_rfl) (by kernel_rfl) (by kernel_rfl) (fun _ _ _ h => h) (Or.inl ⟨by rfl, ?_⟩) (by assumption) ?_
    rotate_left
    · intro w hSw
      try dsimp only at hSw
      go_simp
      try with_reducible rfl
    try simp only [Act.put, List.setIfInBounds_toArray, List.set_cons_zero, List.set_cons_succ]
    refine wpAnyH_done (by kernel_rfl) ?_ _
    refine NoPanic.normal ?_
    have hb1 : Below w.heap.size w w1 := ((nextN (Mem.start w) 1).trans (HX0.out.2.2.1.mono (by simp))).trans (HX1.out.2.2.1.mono (by have := HX0.out.2.2.1.size; simp at this; exact this))
    have hP0 := ((((PB.start w).arg 40 HA.out.2 HCC.out.1.2 HCC.out.2.2).arg 40 HA.out.1 HCC.out.1.1 HCC.out.2.1).keep hb1)
    have hx0 := (HX1.out.2.1.cells)
    have hy0 := (HX0.out.2.1.cells)
    replace hy0 := (Cells.below hy0 HX1.out.2.2.1).up HX1.out.2.2.1.size
    have HP := Lib.hid ((hP0.row (A := some ⟨w.heap.size, 0, none⟩) (l := b) (c := cy) 40 hy0 HX0.out.1 HCC.out.2.2).row (A := some ⟨wa.heap.size, 0, none⟩) (l := a) (c := cx) 40 hx0 HX1.out.1 HCC.out.2.1)
    clear hb1 hP0 hx0 hy0 hHeld
    try simp only [World.heap_drew] at HP ⊢
    generalize hgx : (wa.heap.size : Nat) = gx at HP ⊢
    generalize hgy : (w.heap.size : Nat) = gy at HP ⊢
    have HG := Lib.hid (And.intro hgx hgy)
    clear hgx hgy
    go_wp2_with fail
    refine (newP HP.out).mono ?_
    rintro e w2 ⟨rfl, h⟩
    have H2 := Lib.hid h
    clear h
    go_wp2_with fail
    refine (divR H2.out (a := a) (na := 40) (by simp) _ rfl (b := b) (nb := 40) (by simp) _ rfl (by decide) (by decide) HB0.out 40 (by decide)).mono ?_
    rintro e w3 ⟨q3, r3, A3, c3, B3, d3, hd, rfl, h⟩
    have HD := Lib.hid hd
    clear hd
    have H3 := Lib.hid h
    clear h
    go_wp2_with fail
    refine (rdivR H3.out (a := a) (na := 40) (by simp) _ rfl (b := b) (nb := 40) (by simp) _ rfl (by decide) (by decide) HB0.out 40 (by decide)).mono ?_
    rintro e w4 ⟨q4, r4, A4, c4, B4, d4, hd, rfl, h⟩
    have HD2 := Lib.hid hd
    clear hd
    have H4 := Lib.hid h
    clear h
    go_wp2_with fail
    refine (trimB H4.out (a := a) (na := 40) (by simp) _ rfl (by decide)).mono ?_
    rintro e w5 ⟨A5, c5, rfl, h, hoo, hbb⟩
    have HO5 := Lib.hid hoo
    clear hoo
    have BL5 := Lib.hid hbb
    have BO5 := HO5
    clear hbb
    have H5 := Lib.hid h
    clear h
    go_wp2_with fail
    refine (sameR H5.out (a := trim q3) (na := 40) (by simp) _ (by first | rfl | simp) (b := trim q4) (nb := 40) (by simp) _ (by first | rfl | simp) true (sameB_yes (trim_congr (div_only HD.out HD2.out).1))).mono ?_
    rintro e w' ⟨rfl, rfl⟩
    go_wp2_with fail
    refine (sameR H5.out (a := trim r3) (na := 40) (by simp) _ (by first | rfl | simp) (b := trim r4) (nb := 40) (by simp) _ (by first | rfl | simp) true (sameB_yes (trim_congr (div_only HD.out HD2.out).2))).mono ?_
    rintro e w' ⟨rfl, rfl⟩
    go_wp2_with fail
    refine (rtrimB H5.out (a := a) (na := 40) (by simp) _ rfl (by decide)).mono ?_
    rintro e w6 ⟨A6, c6, rfl, h, hoo, hbb⟩
    have HO6 := Lib.hid hoo
    clear hoo
    have BL6 := Lib.hid (BL5.out.trans (hbb.mono BL5.out.size))
    have BO6 := Lib.hid (BO5.out.keep hbb)
    clear hbb
    have H6 := Lib.hid h
    clear h
    go_wp2_with fail
    refine (sameR H6.out (a := trim a) (na := 40) (by simp) _ (by first | rfl | simp) (b := trim a) (nb := 40) (by simp) _ (by first | rfl | simp) true (sameB_yes rfl)).mono ?_
    rintro e w' ⟨rfl, rfl⟩
    go_wp2_with fail
    refine (degB H6.out (a := a) (na := 40) (by simp) _ rfl (by decide)).mono ?_
    rintro e w7 ⟨rfl, h, hbb⟩
    have BL7 := Lib.hid (BL6.out.trans (hbb.mono BL6.out.size))
    have BO7 := Lib.hid (BO6.out.keep hbb)
    clear hbb
    have H7 := Lib.hid h
    clear h
    go_wp2_with fail
    refine (rtrimB H7.out (a := a) (na := 40) (by simp) _ rfl (by decide)).mono ?_
    rintro e w8 ⟨A8, c8, rfl, h, hoo, hbb⟩
    have HO8 := Lib.hid hoo
    clear hoo
    have BL8 := Lib.hid (BL7.out.trans (hbb.mono BL7.out.size))
    have BO8 := Lib.hid (BO7.out.keep hbb)
    clear hbb
    have H8 := Lib.hid h
    clear h
    have hlen : ((trim a).length : Int) = (len a : Int) := rfl
    have hla : (len a : Int) ≤ 40 := by have := len_le a; have := HCC.out.2.1; omega
    rw [show (trim a).length = len a from rfl]
    have HTL := Lib.hid (show (trim a).length = len a from rfl)
    have BOL := Lib.hid BO8.out
    have BLL := Lib.hid BL8.out
    obtain ⟨tl, htl⟩ : ∃ tl, trim a = tl := ⟨_, rfl⟩
    rw [htl] at HTL BOL
    clear hlen
    generalize hm : len a = m at hla HTL ⊢
    clear hm htl
    go_wp2_with fail
    go_loopw [15] (fun i wr => ∃ (j : Nat) (l : List UInt8), i = .int .i64 (j : Int) ∧ j ≤ m ∧ l.length = m ∧ Mem.Own wr w4.heap.size 5 A5 c5 (l.map u8v) ∧ Below w4.heap.size w4 wr) (fun i _ => m - (intOf i).toNat)
    case atStart => exact ⟨0, tl, rfl, Nat.zero_le _, HTL.out, BOL.out, BLL.out⟩
    case round =>
      obtain ⟨j, l, rfl, hj, hl, ho, hbw⟩ := hrel
      have HR := Lib.hid (And.intro hl (And.intro ho hbw))
      clear hl ho hbw
      by_cases hjm : j < m
      · obtain ⟨gt, hAt, hgt, hgl, hct, hft, _⟩ := HR.out.2.1.at_ (k := j) (by rw [List.length_map, HR.out.1]; exact hjm)
        have HAT := Lib.hid hAt
        rw [hAt]
        have hjl : j < l.length := by rw [HR.out.1]; exact hjm
        have hct2 : wr.cell? ⟨gt, j, none⟩ = some (.int .u8 ((cf l j).toNat : Int)) := by rw [hct, List.getElem_map, cf_lt hjl]; rfl
        have HOW := Lib.hid (show Mem.Own wr w4.heap.size 5 (some ⟨gt, 0, none⟩) c5 (l.map u8v) from by rw [← hAt]; exact HR.out.2.1)
        have HGT := Lib.hid (And.intro hgt hjl)
        have hji : (j : Int) < (m : Int) := by omega
        clear hct hAt hgt hjl hjm
        generalize hxx : cf l j = xx at *
        have hx5 : (xx.toNat : Int) < 256 := by have := xx.toNat_lt; omega
        clear hxx
        go_wp2_with fail
        go_roundw
        case rel =>
          refine ⟨j + 1, l.set j (xx + 1), rfl, by omega, by rw [List.length_set]; exact HR.out.1, ?_, HR.out.2.2.setCell (p := ⟨gt, j, none⟩) HGT.out.1 _⟩
          exact own_set HOW.out HGT.out.2 _ (xx + 1) (by rw [UInt8.toNat_add]; simp)
        case measure => simp [intOf]; omega
      · obtain rfl : j = m := by omega
        have HPX := Lib.hid (PS.keep H4.out HR.out.2.2)
        clear hjm hj
        go_wp2_with fail
        refine (addR HPX.out (a := a) (na := 40) (by simp) _ rfl (b := b) (nb := 40) (by simp) _ rfl (by decide) (by decide) 40 (by decide)).mono ?_
        rintro e w9 ⟨A9, c9, rfl, h⟩
        have H9 := Lib.hid h
        clear h
        go_wp2_with fail
        refine (raddR H9.out (a := a) (na := 40) (by simp) _ rfl (b := b) (nb := 40) (by simp) _ rfl (by decide) (by decide) 40 (by decide)).mono ?_
        rintro e w10 ⟨A10, c10, rfl, h⟩
        have H10 := Lib.hid h
        clear h
        go_wp2_with fail
        refine (sameR H10.out (a := trim (add a b)) (na := 40) (by simp) _ (by first | rfl | simp) (b := trim (add a b)) (nb := 40) (by simp) _ (by first | rfl | simp) true (sameB_yes rfl)).mono ?_
        rintro e w' ⟨rfl, rfl⟩
        go_wp2_with fail
        refine (mulR H10.out (a := a) (na := 40) (by simp) _ rfl (b := b) (nb := 40) (by simp) _ rfl (by decide) 80 (by decide)).mono ?_
        rintro e w11 ⟨A11, c11, rfl, h⟩
        have H11 := Lib.hid h
        clear h
        go_wp2_with fail
        refine (rmulR H11.out (a := a) (na := 40) (by simp) _ rfl (b := b) (nb := 40) (by simp) _ rfl (by decide) 80 (by decide)).mono ?_
        rintro e w12 ⟨A12, c12, rfl, h⟩
        have H12 := Lib.hid h
        clear h
        go_wp2_with fail
        refine (sameR H12.out (a := trim (mulP a b)) (na := 80) (by simp) _ (by first | rfl | simp) (b := trim (mulP a b)) (nb := 80) (by simp) _ (by first | rfl | simp) true (sameB_yes rfl)).mono ?_
        rintro e w' ⟨rfl, rfl⟩
        go_wp2_with fail
        refine (sameR H12.out (a := a) (na := 40) (by simp) _ (by first | rfl | simp) (b := a) (nb := 40) (by simp) _ (by first | rfl | simp) true (sameB_yes rfl)).mono ?_
        rintro e w' ⟨rfl, rfl⟩
        go_wp2_with fail
        refine (sameR H12.out (a := b) (na := 40) (by simp) _ (by first | rfl | simp) (b := b) (nb := 40) (by simp) _ (by first | rfl | simp) true (sameB_yes rfl)).mono ?_
        rintro e w' ⟨rfl, rfl⟩
        go_wp2_with fail
        refine (works_any _).mono ?_
        rintro e w13 ⟨rfl, hb⟩
        have H13 := Lib.hid (PS.keep H12.out hb)
        clear hb
        go_wp2_with fail
        go_ret
        exact ⟨rfl, PS.below H13.out⟩
theorem two_any (w : World) (A : Option Addr) (a : List UInt8) (ca : Nat) (hca : a.length ≤ ca) (hA : Bytes w w.heap.size A a) (B : Option Addr) (b : List UInt8) (cb : Nat) (hcb : b.length ≤ cb) (hB : Bytes w w.heap.size B b) :
    Calls Try.prog 3 #[.slice A a.length ca, .slice B b.length cb] w fun e w' => e = .returned (.bool true) ∧ Below w.heap.size w w' := by
  by_cases hs0 : a.length ≤ 40
  · skip
    by_cases hs1 : b.length ≤ 40
    · skip
      by_cases hb : len b = 0
      · exact two_1 w A a ca hca hA B b cb hcb hB ⟨hs0, hs1⟩ hb
      · exact two_0 w A a ca hca hA B b cb hcb hB ⟨hs0, hs1⟩ hb
    · exact polytwo_big1 w A a ca hca hA B b cb hcb hB (by omega)
  · exact polytwo_big0 w A a ca hca hA B b cb hcb hB (by omega)
theorem two_law (w : World) (A : Option Addr) (a : List UInt8) (ca : Nat) (hca : a.length ≤ ca) (_ : ca ≤ maxLen) (hA : Bytes w w.heap.size A a) (B : Option Addr) (b : List UInt8) (cb : Nat) (hcb : b.length ≤ cb) (_ : cb ≤ maxLen) (hB : Bytes w w.heap.size B b) :
    Calls Try.prog 3 #[.slice A a.length ca, .slice B b.length cb] w fun e w' => e = .returned (.bool true) ∧ Below w.heap.size w w' := by
  exact two_any w A a ca hca hA B b cb hcb hB
end Go.Proofs.Ytciilojlfaihjaa.PlW
