/- The law of putting: a writer has the fields' bytes, one behind the other. -/
import Derived.Test.YtbinffclijjhlaaFieldsFew
import Derived.Test.YtbinffclijjhlaaFieldsGetLaw
namespace Go.Proofs.Ytbinffclijjhlaa.FdW
open Go.RowKit Mem Fds
open Go.Proofs.Ytbinffclijjhlaa.Open (OneF Flds)
set_option linter.unusedVariables false

/-- A field's bytes; those of all. -/
def OneF.out (x : OneF) : List UInt8 := bytesOf (x.sz.toNat : Int) x.n x.b
def cat (l : List OneF) : List UInt8 := l.flatMap OneF.out
theorem cat_take (l : List OneF) (j : Nat) (hj : j < l.length) : cat (l.take (j + 1)) = cat (l.take j) ++ OneF.out l[j] := by
  rw [cat, List.take_succ_eq_append_getElem hj, List.flatMap_append]; simp [cat]
theorem out_len (x : OneF) : (OneF.out x).length ≤ 8 + x.b.length := by
  unfold OneF.out bytesOf
  split
  · omega
  · rw [be_len]
    unfold sizeI
    split <;> omega
theorem cat_len (l : List OneF) : (cat l).length ≤ 8 * l.length + total l := by
  induction l with
  | nil => simp [cat]
  | cons a r ih =>
    have h := out_len a
    simp only [cat, total, List.flatMap_cons, List.length_append, List.map_cons, List.sum_cons, List.length_cons] at ih ⊢
    omega
theorem total_take_le (l : List OneF) (j : Nat) : total (l.take j) ≤ total l := by
  conv => rhs; rw [← List.take_append_drop j l]
  simp only [total, List.map_append, List.sum_append]
  exact Nat.le_add_right _ _
theorem mem_total (l : List OneF) (x : OneF) (hx : x ∈ l) : x.b.length ≤ total l := by
  induction l with
  | nil => cases hx
  | cons a r ih =>
    simp only [total, List.map_cons, List.sum_cons] at ih ⊢
    rcases List.mem_cons.1 hx with rfl | h
    · omega
    · have := ih h; omega
theorem str_app (a b : List UInt8) : str a ++ str b = str (a ++ b) := by
  have h : (str a ++ str b).data.toList = a ++ b := by
    rw [ByteArray.data_append, Array.toList_append]; rfl
  rw [← h]; rfl

set_option maxHeartbeats 2000000 in
set_option maxRecDepth 100000 in
theorem put_near (w : World) (A : Option Addr) (l : List OneF) (c : Nat) (hF : Flds w w.heap.size A l) (hb : ∀ x ∈ l, x.b.length ≤ 140737488355328) (h60 : l.length ≤ 60) (h2000 : total l ≤ 2000) :
    Calls Try.prog 3 #[.slice A l.length c] w fun e w' => e = .returned (.bool true) ∧ Below w.heap.size w w' := by
  have hfew : fewB l = true := by simp [fewB, h60, h2000]
  have HFW := Lib.hid hfew
  have HBB := Lib.hid hb
  have H2 := Lib.hid h2000
  have HF := Lib.hid hF
  clear hfew hb h2000 hF
  go_enter Try.func3, Try.ntmps3
  go_wp2_with fail
  refine (few_any w A l c HF.out (by omega) HBB.out).mono ?_
  rintro e w0 ⟨rfl, rfl⟩
  rw [HFW.out]
  have S0 := Lib.hid (Stg.start (base := w.heap.size) (Blk.new w 27 #[.slice none 0 0]) (Nat.le_refl _))
  go_wp2_with fail
  generalize hw1 : w.alloc (.cells #[.slice none 0 0] 27) = w1 at *
  have HW1 := Lib.hid hw1
  clear hw1
  go_loopw [4, 5] (fun s i wr => ∃ (j : Nat), i = .int .i64 (j : Int) ∧ s = .string (str (cat (l.take j))) ∧ j ≤ l.length ∧ Stg w.heap.size w1 w.heap.size (cat (l.take j)) wr) (fun _ i _ => l.length - (intOf i).toNat)
  case atStart => exact ⟨0, rfl, rfl, Nat.zero_le _, S0.out⟩
  case round =>
    obtain ⟨j, rfl, rfl, hj, hS⟩ := hrel
    have SS := Lib.hid hS
    have BW := Lib.hid (show Below w.heap.size w wr from by have := HW1.out; subst this; exact fr_start hS.fr)
    have hcl : (cat (l.take j)).length ≤ 3000 := by
      have h1 := cat_len (l.take j)
      have h2 := total_take_le l j
      have h3 := H2.out
      rw [List.length_take] at h1
      omega
    have CL := Lib.hid hcl
    clear hS hcl
    by_cases hjl : j < l.length
    · obtain ⟨b, off, rfl, hbl, hc0, hc1, hc2⟩ := Flds.at_ (Flds.below HF.out BW.out) hjl
      have hx := HF.out.each l[j] (List.getElem_mem hjl)
      have hxb := mem_total l l[j] (List.getElem_mem hjl)
      have CT := Lib.hid (cat_take l j hjl)
      have HX := Lib.hid (And.intro hx (Nat.le_trans hxb H2.out))
      generalize hxe : l[j] = x at *
      have XE := Lib.hid hxe
      clear hx hxb hxe
      have h1 : (j : Int) < (l.length : Int) := by omega
      have h0 : (0 : Int) ≤ (j : Int) := by omega
      go_wp2_with fail
      refine (put_stg SS.out (Nat.le_trans CL.out (by decide)) _ x.n HX.out.1.1 x.A x.b x.c (Nat.le_trans HX.out.2 (by decide)) ((HX.out.1.2.below BW.out).up BW.out.size)).mono ?_
      rintro e w2 ⟨rfl, hs2⟩
      have S2 := Lib.hid hs2
      have B2 := Lib.hid (show Below w.heap.size w w2 from by have := HW1.out; subst this; exact fr_start hs2.fr)
      clear hs2 hc0 hc1 hc2
      obtain ⟨b', off', e', hbl', hd0, hd1, hd2⟩ := Flds.at_ (Flds.below HF.out B2.out) hjl
      injection e' with e'
      have e1 := congrArg Addr.block e'
      have e2 := congrArg Addr.off e'
      simp only at e1 e2
      subst e1; subst e2
      rw [XE.out] at hd0 hd1 hd2
      clear e'
      go_wp2_with fail
      refine (plain_any w2 _ x.n HX.out.1.1 x.A x.b x.c ((HX.out.1.2.below B2.out).up B2.out.size)).mono ?_
      rintro e w3 ⟨A3, c3, rfl, hby, hb3⟩
      have es := run_str (P := Try.prog) w3 25 5 Try.underlying25 Try.underlying5 hby c3 9 Try.underlying9
      have S3 := Lib.hid (S2.out.keep hb3)
      clear hby hb3 S2 B2 hd0 hd1 hd2 SS BW
      have XO := Lib.hid (show OneF.out x = bytesOf (x.sz.toNat : Int) x.n x.b from rfl)
      generalize bytesOf (x.sz.toNat : Int) x.n x.b = r at *
      have T4 := Lib.hid (show cat (l.take (j + 1)) = cat (l.take j) ++ r from by rw [CT.out, XO.out])
      have htl : ((cat (l.take j) ++ r).length : Int) ≤ 3000 := by
        rw [← T4.out]
        have h1 := cat_len (l.take (j + 1))
        have h2 := total_take_le l (j + 1)
        have h3 := H2.out
        rw [List.length_take] at h1
        omega
      have hsum : ¬ 9223372036854775807 < (str (cat (l.take j))).size + (str r).size := by
        rw [List.length_append] at htl
        show ¬ 9223372036854775807 < (cat (l.take j)).length + r.length
        omega
      have HTL := Lib.hid htl
      clear htl
      go_wp2_with fail
      rw [str_app]
      have htl := HTL.out
      clear es hsum HTL
      generalize cat (l.take j) ++ r = tt at *
      refine (out_has S3.out.has (by omega)).mono ?_
      rintro e w4 ⟨A4, c4, rfl, ho4, hb4⟩
      have es4 := run_str (P := Try.prog) w4 25 5 Try.underlying25 Try.underlying5 ho4.bytes c4 9 Try.underlying9
      have H4 := Lib.hid (And.intro ho4 hb4)
      clear ho4 hb4 HX XO
      go_wp2_with fail
      clear es4
      go_loopw [7] (fun i wq => ∃ (m : Nat) (l5 : List UInt8), i = .int .i64 (m : Int) ∧ m ≤ tt.length ∧ l5.length = tt.length ∧ Own wq w3.heap.size 5 A4 c4 (l5.map u8v) ∧ Below w3.heap.size w3 wq) (fun i _ => tt.length - (intOf i).toNat)
      case atStart => exact ⟨0, tt, rfl, Nat.zero_le _, rfl, H4.out.1, H4.out.2⟩
      case round =>
        clear H4
        obtain ⟨m, l5, rfl, hm, hl5, ho, hbo⟩ := hrel
        have HL5 := Lib.hid hl5
        have BO5 := Lib.hid hbo
        clear hbo
        by_cases hml : m < tt.length
        · have hm1 : m < l5.length := by omega
          obtain ⟨g, off4, rfl, hb, hcell⟩ := ho.bytes.at_ hm1
          have hfz : wr.frozen? ⟨g, off4 + m, none⟩ = false := by
            obtain ⟨g', hq, _, _, _, h4, _⟩ := ho.at_ (k := m) (by simpa using hm1)
            injection hq with hq; injection hq with hq1 hq2; subst hq1; subst hq2
            simpa using h4
          obtain ⟨rfl, hug⟩ : off4 = 0 ∧ w3.heap.size ≤ g := by
            rcases ho.form with ⟨h1, _⟩ | ⟨g', h1, h2, _⟩
            · cases h1
            · injection h1 with h1
              refine ⟨congrArg Addr.off h1, ?_⟩
              have := congrArg Addr.block h1
              simp at this
              omega
          have h3 : (m : Int) < (tt.length : Int) := by omega
          have h4 : (0 : Int) ≤ (m : Int) := by omega
          rw [Nat.zero_add] at hcell hfz
          clear hl5
          have HOj := Lib.hid (And.intro ho hug)
          clear ho hug
          generalize l5[m] = cj at *
          go_wp2_with fail
          go_roundw
          case rel =>
            obtain ⟨x, hx⟩ := xor8 (cj.toNat : Int) 255
            rw [hx]
            exact ⟨m + 1, l5.set m x, rfl, hml, by simp [HL5.out], own_set HOj.out.1 hm1 _ x rfl, BO5.out.trans (((Fr.refl (fun i => i = g) _).setCell (p := ⟨g, m, none⟩) (fun _ => rfl) _).below BO5.out.size fun k hk => by subst hk; exact HOj.out.2)⟩
          case measure => simp [intOf]; omega
        · obtain rfl : m = tt.length := by omega
          clear ho hl5 HL5
          go_wp2_with fail
          go_roundw
          case rel => exact ⟨j + 1, rfl, by rw [T4.out], hjl, by rw [T4.out]; exact S3.out.keep BO5.out⟩
          case measure => simp [intOf]; omega
    · obtain rfl : j = l.length := by omega
      rw [List.take_length] at SS CL
      rw [List.take_length]
      have htl : (cat l).length ≤ 100000000 := Nat.le_trans CL.out (by decide)
      have HT := Lib.hid htl
      clear htl
      go_wp2_with fail
      refine (out_has SS.out.has HT.out).mono ?_
      rintro e w4 ⟨A4, c4, rfl, ho4, hb4⟩
      have es4 := run_str (P := Try.prog) w4 25 5 Try.underlying25 Try.underlying5 ho4.bytes c4 9 Try.underlying9
      have H4 := Lib.hid (next BW.out (hb4.mono (Nat.le_refl _)))
      clear ho4 hb4
      go_wp2_with fail
      refine (works_any _).mono ?_
      rintro e w24 ⟨rfl, hb⟩
      have B24 := Lib.hid (next H4.out hb)
      clear hb H4 SS
      go_wp2_with fail
      go_ret
      exact ⟨rfl, B24.out⟩
theorem few_iff (l : List OneF) : fewB l = true ↔ l.length ≤ 60 ∧ total l ≤ 2000 := by simp [fewB]
set_option maxHeartbeats 1000000 in
theorem put_far (w : World) (A : Option Addr) (l : List OneF) (c : Nat) (hF : Flds w w.heap.size A l) (hm : (l.length : Int) ≤ 9223372036854775807) (hb : ∀ x ∈ l, x.b.length ≤ 140737488355328) (hfew : fewB l = false) :
    Calls Try.prog 3 #[.slice A l.length c] w fun e w' => e = .returned (.bool true) ∧ Below w.heap.size w w' := by
  have HFW := Lib.hid hfew
  have HBB := Lib.hid hb
  have HF := Lib.hid hF
  have HM := Lib.hid hm
  clear hfew hb hF hm
  go_enter Try.func3, Try.ntmps3
  go_wp2_with fail
  refine (few_any w A l c HF.out HM.out HBB.out).mono ?_
  rintro e w0 ⟨rfl, rfl⟩
  rw [HFW.out]
  go_wp2_with fail
  refine (works_any _).mono ?_
  rintro e w24 ⟨rfl, hb⟩
  have B24 := Lib.hid hb
  clear hb
  go_wp2_with fail
  go_ret
  exact ⟨rfl, B24.out⟩
/-- The law of putting. -/
theorem putLaw_any (w : World) (A : Option Addr) (l : List OneF) (c : Nat) (hle : l.length ≤ c) (hmx : c ≤ maxLen) (hF : Flds w w.heap.size A l) (hb : ∀ x ∈ l, x.b.length ≤ 140737488355328) :
    Calls Try.prog 3 #[.slice A l.length c] w fun e w' => e = .returned (.bool true) ∧ Below w.heap.size w w' := by
  simp only [maxLen] at hmx
  cases h : fewB l
  · exact put_far w A l c hF (by omega) hb h
  · have := (few_iff l).1 h
    exact put_near w A l c hF hb this.1 this.2
end Go.Proofs.Ytbinffclijjhlaa.FdW
