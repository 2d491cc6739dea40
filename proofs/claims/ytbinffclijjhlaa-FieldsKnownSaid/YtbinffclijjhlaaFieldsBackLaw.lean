/- The law of the stage: what is put is read in that order as it was. -/
import Derived.Test.YtbinffclijjhlaaFieldsPutLaw
namespace Go.Proofs.Ytbinffclijjhlaa.FdW
open Go.RowKit Mem Fds
open Go.Proofs.Ytbinffclijjhlaa.Open (OneF Flds)
set_option linter.unusedVariables false
/-- A conversion under a name of its own, so that a drawn region's walk does not try to take it first. -/
def convOp (a b : TypeId) (x : Operand) : Op := .convert a b x
attribute [local go_sem] convOp

theorem split_at (a x r : List UInt8) : ((a ++ x ++ r).drop a.length).take x.length = x := by
  rw [List.append_assoc, List.drop_left, List.take_left]
theorem cat_split (l : List OneF) (j : Nat) (hj : j < l.length) (b : List UInt8) : cat l ++ b = cat (l.take j) ++ OneF.out l[j] ++ (cat (l.drop (j + 1)) ++ b) := by
  have h : cat l = cat (l.take (j + 1)) ++ cat (l.drop (j + 1)) := by
    simp only [cat]
    rw [← List.flatMap_append, List.take_append_drop]
  rw [h, cat_take l j hj]
  simp only [List.append_assoc]
/-- A reader that stands ahead of x reads it. -/
theorem reads {tt a x r : List UInt8} (h : tt = a ++ x ++ r) (n : Nat) (hn : n = x.length) : got tt a.length false (n : Int) = x ∧ goes tt a.length false (n : Int) = (a ++ x).length ∧ bad tt a.length false (n : Int) = false := by
  subst h; subst hn
  have hl : a.length + x.length ≤ (a ++ x ++ r).length := by simp only [List.length_append]; omega
  exact ⟨by rw [got_in hl, split_at], by rw [goes_in hl, List.length_append], bad_in hl⟩

set_option maxHeartbeats 2000000 in
set_option maxRecDepth 100000 in
theorem back_near (w : World) (A : Option Addr) (l : List OneF) (c : Nat) (hF : Flds w w.heap.size A l) (hb : ∀ x ∈ l, x.b.length ≤ 140737488355328) (h60 : l.length ≤ 60) (h2000 : total l ≤ 2000) (B : Option Addr) (b : List UInt8) (d : Nat) (hB : Bytes w w.heap.size B b) (hbl : (b.length : Int) ≤ 100) :
    Calls Try.prog 7 #[.slice A l.length c, .slice B b.length d] w fun e w' => e = .returned (.bool true) ∧ Below w.heap.size w w' := by
  have HFW := Lib.hid ((few_iff l).2 ⟨h60, h2000⟩)
  have HBB := Lib.hid hb
  have H2 := Lib.hid h2000
  have HF := Lib.hid hF
  have HBy := Lib.hid hB
  clear hb h2000 hF hB
  go_enter Try.func7, Try.ntmps7
  go_wp2_with fail
  refine (few_any w A l c HF.out (by omega) HBB.out).mono ?_
  rintro e w0 ⟨rfl, rfl⟩
  rw [HFW.out]
  have S0 := Lib.hid (Stg.start (base := w.heap.size) (Blk.new w 27 #[.slice none 0 0]) (Nat.le_refl _))
  go_wp2_with fail
  generalize hw1 : w.alloc (.cells #[.slice none 0 0] 27) = w1 at *
  have HW1 := Lib.hid hw1
  clear hw1
  go_loopw [6] (fun i wr => ∃ (j : Nat), i = .int .i64 (j : Int) ∧ j ≤ l.length ∧ Stg w.heap.size w1 w.heap.size (cat (l.take j)) wr) (fun i _ => l.length - (intOf i).toNat)
  case atStart => exact ⟨0, rfl, Nat.zero_le _, S0.out⟩
  case round =>
    obtain ⟨j, rfl, hj, hS⟩ := hrel
    have SS := Lib.hid hS
    have BW := Lib.hid (show Below w.heap.size w wr from by have := HW1.out; subst this; exact fr_start hS.fr)
    have hcl : (cat (l.take j)).length ≤ 3000 := by
      have h1 := cat_len (l.take j)
      have h2 := total_take_le l j
      have h3 := H2.out
      rw [List.length_take] at h1
      omega
    have CL := Lib.hid hcl
    clear hS hcl
    by_cases hjl : j < l.length
    · obtain ⟨g, off, rfl, hgl, hc0, hc1, hc2⟩ := Flds.at_ (Flds.below HF.out BW.out) hjl
      have hx := HF.out.each l[j] (List.getElem_mem hjl)
      have hxb := mem_total l l[j] (List.getElem_mem hjl)
      have CT := Lib.hid (cat_take l j hjl)
      have HX := Lib.hid (And.intro hx (Nat.le_trans hxb H2.out))
      generalize hxe : l[j] = x at *
      clear hx hxb hxe
      have h1 : (j : Int) < (l.length : Int) := by omega
      have h0 : (0 : Int) ≤ (j : Int) := by omega
      go_wp2_with fail
      refine (put_stg SS.out (Nat.le_trans CL.out (by decide)) _ x.n HX.out.1.1 x.A x.b x.c (Nat.le_trans HX.out.2 (by decide)) ((HX.out.1.2.below BW.out).up BW.out.size)).mono ?_
      rintro e w2 ⟨rfl, hs2⟩
      have S2 := Lib.hid hs2
      clear hs2 hc0 hc1 hc2
      go_wp2_with fail
      go_roundw
      case rel => exact ⟨j + 1, rfl, hjl, by rw [CT.out]; exact S2.out⟩
      case measure => simp [intOf]; omega
    · obtain rfl : j = l.length := by omega
      rw [List.take_length] at SS CL
      go_wp2_with fail
      refine (raw_stg SS.out (Nat.le_trans CL.out (by decide)) B b _ d rfl (by omega) ((HBy.out.below BW.out).up BW.out.size)).mono ?_
      rintro e w2 ⟨rfl, hs2⟩
      have S2 := Lib.hid hs2
      have B2 := Lib.hid (show Below w.heap.size w w2 from by have := HW1.out; subst this; exact fr_start hs2.fr)
      have htl : (cat l ++ b).length ≤ 10000000 := by rw [List.length_append]; have := CL.out; omega
      have HTL := Lib.hid htl
      clear hs2 htl SS BW S0 HW1
      generalize htt : cat l ++ b = tt at *
      have TT := Lib.hid htt
      clear htt
      go_wp2_with fail
      refine (out_has S2.out.has (Nat.le_trans HTL.out (by decide))).mono ?_
      rintro e w3 ⟨A3, c3, rfl, ho3, hb3⟩
      have H3 := Lib.hid (And.intro ho3 (next B2.out hb3))
      clear ho3 hb3 S2 B2
      go_wp2_with fail
      refine (open_has w3 A3 tt _ c3 rfl HTL.out H3.out.1.bytes).mono ?_
      rintro e w4 ⟨p, rfl, hr4, hb4⟩
      have H4 := Lib.hid (And.intro hr4 (next H3.out.2 hb4))
      have HW3 := Lib.hid (show w.heap.size ≤ w3.heap.size from H3.out.2.size)
      clear hr4 hb4 
      go_wp2_with fail
      go_loopw [8, 9] (fun i n wq => ∃ (j : Nat), i = .int .i64 (j : Int) ∧ j ≤ l.length ∧ HasR w3.heap.size p tt (cat (l.take j)).length false wq ∧ Below w.heap.size w wq) (fun i _ _ => l.length - (intOf i).toNat)
      case atStart => exact ⟨0, rfl, Nat.zero_le _, H4.out.1, H4.out.2⟩
      case round =>
        clear H4
        obtain ⟨j, rfl, hj, hR⟩ := hrel
        have RR := Lib.hid hR
        clear hR
        by_cases hjl : j < l.length
        · obtain ⟨g, off, rfl, hgl, hc0, hc1, hc2⟩ := Flds.at_ (Flds.below HF.out RR.out.2) hjl
          have hx := HF.out.each l[j] (List.getElem_mem hjl)
          have hxb := mem_total l l[j] (List.getElem_mem hjl)
          have CT := Lib.hid (cat_take l j hjl)
          have CS := Lib.hid (cat_split l j hjl b)
          have HX := Lib.hid (And.intro hx (Nat.le_trans hxb H2.out))
          generalize hxe : l[j] = x at *
          have XE := Lib.hid hxe
          clear hx hxb hxe
          have h1 : (j : Int) < (l.length : Int) := by omega
          have h0 : (0 : Int) ≤ (j : Int) := by omega
          go_wp2_with fail
          refine (size_any _ _ _ _ _ _).mono ?_
          rintro e w5 ⟨rfl, hb5⟩
          have R5 := Lib.hid (And.intro (RR.out.1.keep hb5) (next RR.out.2 hb5))
          clear hb5 RR hc0 hc1 hc2
          have R6 := Lib.hid (reads (TT.out.symm.trans CS.out) _ rfl)
          have hy : sizeI (x.sz.toNat : Int) = 0 ∧ OneF.out x = x.b ∨ (sizeI (x.sz.toNat : Int) == 0) = false ∧ (sizeI (x.sz.toNat : Int) = 1 ∨ sizeI (x.sz.toNat : Int) = 2 ∨ sizeI (x.sz.toNat : Int) = 4 ∨ sizeI (x.sz.toNat : Int) = 8) ∧ OneF.out x = be (sizeI (x.sz.toNat : Int)).toNat x.n := by
            by_cases h : sizeI (x.sz.toNat : Int) = 0
            · exact .inl ⟨h, by rw [OneF.out, bytesOf, if_pos h]⟩
            · refine .inr ⟨by simpa using h, ?_, by rw [OneF.out, bytesOf, if_neg h]⟩
              unfold sizeI at h ⊢
              split <;> simp_all
          have KF := Lib.hid (show ∀ w' : World, Below w.heap.size w w' → w'.cell? ⟨g, off + j * 3, none⟩ = some (.int .u8 (x.sz.toNat : Int)) ∧ w'.cell? ⟨g, off + j * 3 + 1, none⟩ = some (.int .u64 (x.n : Int)) ∧ w'.cell? ⟨g, off + j * 3 + 2, none⟩ = some (.slice x.A x.b.length x.c) from fun w' hb => by
            obtain ⟨b', off', e', _, hd0, hd1, hd2⟩ := Flds.at_ (Flds.below HF.out hb) hjl
            injection e' with e'
            have e1 := congrArg Addr.block e'
            have e2 := congrArg Addr.off e'
            simp only at e1 e2
            subst e1; subst e2
            rw [XE.out] at hd0 hd1 hd2
            exact ⟨hd0, hd1, hd2⟩)
          generalize sizeI (x.sz.toNat : Int) = y at *
          rcases hy with ⟨rfl, ho⟩ | ⟨hy0, hy1, ho⟩
          · have HO := Lib.hid ho
            clear ho
            have hgot : got tt (cat (l.take j)).length false (x.b.length : Int) = x.b ∧ goes tt (cat (l.take j)).length false (x.b.length : Int) = (cat (l.take (j + 1))).length ∧ bad tt (cat (l.take j)).length false (x.b.length : Int) = false := by
              have h := reads (TT.out.symm.trans CS.out) x.b.length (by rw [HO.out])
              rw [HO.out] at h
              refine ⟨h.1, ?_, h.2.2⟩
              rw [h.2.1, CT.out, HO.out]
            have HG := Lib.hid hgot
            have HP := Lib.hid (Nat.le_trans HW3.out R5.out.1.at_)
            clear hgot
            have hxl : (x.b.length : Int) ≤ 2000 := by have := HX.out.2; omega
            go_wp2_with fail
            obtain ⟨hd0, hd1, hd2⟩ := KF.out w5.drew (nextN R5.out.2 1)
            have es5 := str_far (HX.out.1.2.below R5.out.2) R5.out.2 (drewB w5) x.c
            go_cut [62] (fun s62 wx => s62 = .bool false ∧ HasR w3.heap.size p tt (cat (l.take (j + 1))).length false wx ∧ Below w.heap.size w wx)
            case first =>
              go_region_with (go_at_call 17; refine (rraw_has (x.b.length : Int) (R5.out.1.keep (nextN (Mem.start w5) 1))).mono ?_; (rintro e w6 ⟨A6, c6, rfl, ho6, hr6, hf6⟩; rw [HG.out.1] at ho6 ⊢; rw [HG.out.2.1, HG.out.2.2] at hr6; have hB6 := (nextN R5.out.2 1).trans (hf6.below (nextN R5.out.2 1).size fun k hk => hk ▸ HP.out); obtain ⟨hd0, hd1, hd2⟩ := KF.out _ hB6; have es6 := run_str (P := Try.prog) w6 25 5 Try.underlying25 Try.underlying5 (HX.out.1.2.below hB6) x.c 9 Try.underlying9; have es7 := run_str (P := Try.prog) w6 25 5 Try.underlying25 Try.underlying5 ho6.bytes c6 9 Try.underlying9))
              all_goals (go_wp2_with fail; go_meet)
              all_goals exact ⟨rfl, hr6, hB6⟩
            case rest =>
              obtain ⟨rfl, hr8, hb8⟩ := hcut
              have H8 := Lib.hid (And.intro hr8 hb8)
              clear hr8 hb8 hd0 hd1 hd2 R5 es5
              go_wp2_with fail
              go_roundw
              case rel => exact ⟨j + 1, rfl, hjl, H8.out.1, H8.out.2⟩
              case measure => simp [intOf]; omega
          · have HO := Lib.hid ho
            have HY := Lib.hid hy1
            clear ho hy1
            go_wp2_with fail
            obtain ⟨hd0, hd1, hd2⟩ := KF.out w5.drew (nextN R5.out.2 1)
            go_cut [72] (fun s72 wx => s72 = .bool false ∧ HasR w3.heap.size p tt (cat (l.take (j + 1))).length false wx ∧ Below w.heap.size w wx)
            case first =>
              have hgot : got tt (cat (l.take j)).length false y = be y.toNat x.n ∧ goes tt (cat (l.take j)).length false y = (cat (l.take (j + 1))).length ∧ bad tt (cat (l.take j)).length false y = false := by
                have h := reads (TT.out.symm.trans CS.out) y.toNat (by rw [HO.out, be_len])
                have hy' := HY.out
                rw [show ((y.toNat : Nat) : Int) = y by omega, HO.out] at h
                refine ⟨h.1, ?_, h.2.2⟩
                rw [h.2.1, CT.out, HO.out]
              have HG := Lib.hid hgot
              clear hgot
              have hxb : Bytes w w.heap.size x.A x.b := HX.out.1.2
              have hxb5 := hxb.below R5.out.2
              have HXB := Lib.hid hxb5
              have HBO := Lib.hid (show bytesOf (x.sz.toNat : Int) x.n x.b = be y.toNat x.n from HO.out)
              have HL8 := Lib.hid (show (be y.toNat x.n).length ≤ 8 from by rw [be_len]; have := HY.out; omega)
              have HP := Lib.hid (Nat.le_trans HW3.out R5.out.1.at_)
              clear hxb hxb5
              go_region_with (first
                | (go_at_call 15; refine (get_has (R5.out.1.keep (nextN (Mem.start w5) 1)) y HY.out).mono ?_; (rintro e w6 ⟨rfl, hr6, hf6⟩; rw [HG.out.1]; rw [HG.out.2.1, HG.out.2.2] at hr6; have hB6 := (nextN R5.out.2 1).trans (hf6.below (nextN R5.out.2 1).size fun k hk => hk ▸ HP.out); obtain ⟨hd0, hd1, hd2⟩ := KF.out _ hB6))
                | (go_at_call 12; refine (plain_any _ _ x.n HX.out.1.1 x.A x.b x.c ((HX.out.1.2.below hB6).up hB6.size)).mono ?_; (rintro e w7 ⟨A7, c7, rfl, hby7, hb7⟩; rw [HBO.out] at hby7 ⊢))
                | (go_at_call 33; refine (number_any _ _ (be y.toNat x.n) _ c7 rfl HL8.out hby7).mono ?_; (rintro e w8 ⟨rfl, rfl⟩)))
              all_goals (go_wp2_with fail; go_meet)
              all_goals exact ⟨rfl, hr6.keep hb7, next hB6 hb7⟩
            case rest =>
              obtain ⟨rfl, hr8, hb8⟩ := hcut
              have H8 := Lib.hid (And.intro hr8 hb8)
              clear hr8 hb8 hd0 hd1 hd2 R5
              go_wp2_with fail
              go_roundw
              case rel => exact ⟨j + 1, rfl, hjl, H8.out.1, H8.out.2⟩
              case measure => simp [intOf]; omega
        · obtain rfl : j = l.length := by omega
          rw [List.take_length] at RR
          have hg := reads (show tt = cat l ++ b ++ [] from by rw [List.append_nil, TT.out]) b.length rfl
          rw [TT.out] at hg
          have HG := Lib.hid hg
          have HL1 := Lib.hid (show left tt (cat l).length false = b.length from by rw [left, if_neg (by simp), ← TT.out, List.length_append]; omega)
          have HL2 := Lib.hid (show left tt tt.length false = 0 from by rw [left, if_neg (by simp)]; omega)
          clear hg
          generalize (cat l).length = k at *
          have RR1 := Lib.hid (And.intro (RR.out.1.keep (drewB wr)) (next RR.out.2 (drewB wr)))
          have HP := Lib.hid (Nat.le_trans HW3.out RR.out.1.at_)
          have es := run_str (P := Try.prog) wr.drew 25 5 Try.underlying25 Try.underlying5 (HBy.out.below RR1.out.2) d 9 Try.underlying9
          clear RR
          go_wp2_with fail
          rw [show Op.convert 25 9 (Operand.tmp 87) = convOp 25 9 (Operand.tmp 87) from rfl]
          go_region_held3 (fun W => (convert 25 9 (.slice B b.length d)).run Try.prog W = .ok (.string (str b)) W) (first | exact es | exact es6) (first
            | (go_at_call 19; ((with_reducible refine (left_has RR1.out.1).mono ?_); (rintro e w6 ⟨rfl, hb6⟩; (first | rw [HL1.out] | rw [HL2.out]); replace RR1 := Lib.hid (And.intro (RR1.out.1.keep hb6) (next RR1.out.2 hb6)); clear hb6; have es6 := run_str (P := Try.prog) w6 25 5 Try.underlying25 Try.underlying5 (HBy.out.below RR1.out.2) d 9 Try.underlying9)))
            | (go_at_call 21; ((with_reducible refine (bad_has RR1.out.1).mono ?_); (rintro e w6 ⟨rfl, rfl⟩)))
            | (go_at_call 17; ((with_reducible refine (rraw_has (b.length : Int) RR1.out.1).mono ?_); (rintro e w6 ⟨A6, c6, rfl, ho6, hr6, hf6⟩; rw [HG.out.1] at ho6 ⊢; rw [HG.out.2.1, HG.out.2.2] at hr6; replace RR1 := Lib.hid (And.intro hr6 (RR1.out.2.trans (hf6.below RR1.out.2.size fun k hk => hk ▸ HP.out))); have es6 := run_str (P := Try.prog) w6 25 5 Try.underlying25 Try.underlying5 (HBy.out.below RR1.out.2) d 9 Try.underlying9; have es7 := run_str (P := Try.prog) w6 25 5 Try.underlying25 Try.underlying5 ho6.bytes c6 9 Try.underlying9; clear ho6 hr6 hf6)))
            | (go_at_call 10; ((with_reducible refine (works_any _).mono ?_); (rintro e w6 ⟨rfl, hb6⟩; replace RR1 := Lib.hid (And.intro trivial (next RR1.out.2 hb6)); clear hb6; have es6 := run_str (P := Try.prog) w6 25 5 Try.underlying25 Try.underlying5 (HBy.out.below RR1.out.2) d 9 Try.underlying9))))
          all_goals go_wp2_with fail
          all_goals go_ret
          all_goals exact ⟨rfl, RR1.out.2⟩

set_option maxHeartbeats 1000000 in
theorem back_far (w : World) (A : Option Addr) (l : List OneF) (c : Nat) (hF : Flds w w.heap.size A l) (hm : (l.length : Int) ≤ 9223372036854775807) (hb : ∀ x ∈ l, x.b.length ≤ 140737488355328) (hfew : fewB l = false) (B : Option Addr) (b : List UInt8) (d : Nat) :
    Calls Try.prog 7 #[.slice A l.length c, .slice B b.length d] w fun e w' => e = .returned (.bool true) ∧ Below w.heap.size w w' := by
  have HFW := Lib.hid hfew
  have HBB := Lib.hid hb
  have HF := Lib.hid hF
  have HM := Lib.hid hm
  clear hfew hb hF hm
  go_enter Try.func7, Try.ntmps7
  go_wp2_with fail
  refine (few_any w A l c HF.out HM.out HBB.out).mono ?_
  rintro e w0 ⟨rfl, rfl⟩
  rw [HFW.out]
  go_wp2_with fail
  refine (works_any _).mono ?_
  rintro e w24 ⟨rfl, hb⟩
  have B24 := Lib.hid hb
  clear hb
  go_wp2_with fail
  go_ret
  exact ⟨rfl, B24.out⟩
set_option maxHeartbeats 1000000 in
theorem back_long (w : World) (A : Option Addr) (l : List OneF) (c : Nat) (hF : Flds w w.heap.size A l) (hb : ∀ x ∈ l, x.b.length ≤ 140737488355328) (hfew : fewB l = true) (B : Option Addr) (b : List UInt8) (d : Nat) (hlong : (100 : Int) < (b.length : Int)) (hm2 : (b.length : Int) ≤ 9223372036854775807) :
    Calls Try.prog 7 #[.slice A l.length c, .slice B b.length d] w fun e w' => e = .returned (.bool true) ∧ Below w.heap.size w w' := by
  have HFW := Lib.hid hfew
  have h60 := ((few_iff l).1 hfew).1
  have HBB := Lib.hid hb
  have HF := Lib.hid hF
  clear hfew hb hF
  go_enter Try.func7, Try.ntmps7
  go_wp2_with fail
  refine (few_any w A l c HF.out (by omega) HBB.out).mono ?_
  rintro e w0 ⟨rfl, rfl⟩
  rw [HFW.out]
  go_wp2_with fail
  refine (works_any _).mono ?_
  rintro e w24 ⟨rfl, hb⟩
  have B24 := Lib.hid hb
  clear hb
  go_wp2_with fail
  go_ret
  exact ⟨rfl, B24.out⟩
/-- The law of the stage. -/
theorem backLaw_any (w : World) (A : Option Addr) (l : List OneF) (c : Nat) (hle : l.length ≤ c) (hmx : c ≤ maxLen) (hF : Flds w w.heap.size A l) (hb : ∀ x ∈ l, x.b.length ≤ 140737488355328) (B : Option Addr) (b : List UInt8) (d : Nat) (hle2 : b.length ≤ d) (hmx2 : d ≤ maxLen) (hB : Bytes w w.heap.size B b) :
    Calls Try.prog 7 #[.slice A l.length c, .slice B b.length d] w fun e w' => e = .returned (.bool true) ∧ Below w.heap.size w w' := by
  simp only [maxLen] at hmx hmx2
  cases h : fewB l
  · exact back_far w A l c hF (by omega) hb h B b d
  · have := (few_iff l).1 h
    by_cases h100 : b.length ≤ 100
    · exact back_near w A l c hF hb this.1 this.2 B b d hB (by omega)
    · exact back_long w A l c hF hb h B b d (by omega) (by omega)
end Go.Proofs.Ytbinffclijjhlaa.FdW
