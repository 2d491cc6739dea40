/- The law of cut bytes: all fields ahead of the cut are read, and none from the one on that it cuts. -/
import Derived.Test.YtbinffclijjhlaaFieldsPutLaw
namespace Go.Proofs.Ytbinffclijjhlaa.FdW
open Go.RowKit Mem Fds
open Go.Proofs.Ytbinffclijjhlaa.Open (OneF Flds)
set_option linter.unusedVariables false

theorem cut_extract (l : List UInt8) (n : Nat) : (str l).extract 0 n = str (l.take n) := by
  have := str_extract l 0 n
  simpa using this

theorem cut_reads {c a r rest : List UInt8} {n : Nat} (h : c = a ++ r ++ rest) (hn : a.length + r.length ≤ n) (hc : n ≤ c.length) :
    got (c.take n) a.length false (r.length : Int) = r ∧ goes (c.take n) a.length false (r.length : Int) = a.length + r.length ∧ bad (c.take n) a.length false (r.length : Int) = false := by
  have hl : a.length + r.length ≤ (c.take n).length := by rw [List.length_take]; omega
  refine ⟨?_, goes_in hl, bad_in hl⟩
  rw [got_in hl, List.drop_take, List.take_take, h, show min r.length (n - a.length) = r.length by omega, List.append_assoc, List.drop_left, List.take_left]
theorem cut_fails {t : List UInt8} {k m : Nat} {f : Bool} (h : f = true ∨ (f = false ∧ k ≤ t.length ∧ t.length < k + m)) :
    got t k f (m : Int) = [] ∧ goes t k f (m : Int) = k ∧ bad t k f (m : Int) = true := by
  have hb : bad t k f (m : Int) = true := by
    unfold bad
    rcases h with rfl | ⟨rfl, h1, h2⟩
    · simp
    · simp [left]; omega
  exact ⟨by rw [got, if_pos hb], by rw [goes, if_pos hb], hb⟩
theorem cat_split' (l : List OneF) (j : Nat) (hj : j < l.length) : cat l = cat (l.take j) ++ OneF.out l[j] ++ cat (l.drop (j + 1)) := by
  have h : cat l = cat (l.take (j + 1)) ++ cat (l.drop (j + 1)) := by
    simp only [cat]
    rw [← List.flatMap_append, List.take_append_drop]
  rw [h, cat_take l j hj]
/-- Bytes lie in no reader's block. -/
theorem bytes_other {w w' : World} {base p k : Nat} {f : Bool} {l r : List UInt8} {A : Option Addr} (h : Bytes w w.heap.size A r) (hr : HasR base p l k f w) (hf : Fr (fun i => i = p) w w') : Bytes w' w'.heap.size A r := fun hl => by
  obtain ⟨b, off, e, hb, hc⟩ := h hl
  refine ⟨b, off, e, Nat.lt_of_lt_of_le hb hf.size, fun j v hv => ?_⟩
  have hne : b ≠ p := by
    rintro rfl
    obtain ⟨A', c', hrd⟩ := hr
    have h2 := hc j v hv
    rw [hrd.blk.cell (off + j)] at h2
    have hv' : ∃ c : UInt8, v = u8v c := by
      rw [List.getElem?_map] at hv
      cases hq : r[j]? with
      | none => rw [hq] at hv; cases hv
      | some c => rw [hq] at hv; injection hv with hv; exact ⟨c, hv.symm⟩
    obtain ⟨c, rfl⟩ := hv'
    rcases (by omega : off + j = 0 ∨ off + j = 1 ∨ off + j = 2 ∨ 3 ≤ off + j) with e | e | e | e
    · rw [e] at h2; simp [u8v] at h2
    · rw [e] at h2; simp [u8v] at h2
    · rw [e] at h2; simp [u8v] at h2
    · rw [Array.getElem?_eq_none (by simpa using e)] at h2; cases h2
  exact (World.cell?_of_block (hf.block b hb hne)).trans (hc j v hv)
theorem zero_be : ∀ j, be j 0 = List.replicate j 0
  | 0 => rfl
  | j + 1 => by
    rw [be_snoc, Nat.zero_div, zero_be j, List.replicate_succ']; rfl

set_option maxHeartbeats 2000000 in
set_option maxRecDepth 100000 in
theorem cut_near (w : World) (A : Option Addr) (l : List OneF) (c : Nat) (hF : Flds w w.heap.size A l) (hb : ∀ x ∈ l, x.b.length ≤ 140737488355328) (h60 : l.length ≤ 60) (h2000 : total l ≤ 2000) (u : Int) (hu0 : 0 ≤ u) (hu1 : u ≤ 65535) :
    Calls Try.prog 6 #[.slice A l.length c, .int .u16 u] w fun e w' => e = .returned (.bool true) ∧ Below w.heap.size w w' := by
  have HFW := Lib.hid ((few_iff l).2 ⟨h60, h2000⟩)
  have HBB := Lib.hid hb
  have H2 := Lib.hid h2000
  have HF := Lib.hid hF
  clear hb h2000 hF
  go_enter Try.func6, Try.ntmps6
  go_wp2_with fail
  refine (few_any w A l c HF.out (by omega) HBB.out).mono ?_
  rintro e w0 ⟨rfl, rfl⟩
  rw [HFW.out]
  go_wp2_with fail
  go_loopw [5, 6] (fun s i wr => ∃ (j : Nat), i = .int .i64 (j : Int) ∧ s = .string (str (cat (l.take j))) ∧ j ≤ l.length ∧ Below w.heap.size w wr) (fun _ i _ => l.length - (intOf i).toNat)
  case atStart => exact ⟨0, rfl, rfl, Nat.zero_le _, Below.refl _ _⟩
  case round =>
    obtain ⟨j, rfl, rfl, hj, hB⟩ := hrel
    have BW := Lib.hid hB
    clear hB
    by_cases hjl : j < l.length
    · obtain ⟨b, off, rfl, hbl, hc0, hc1, hc2⟩ := Flds.at_ (Flds.below HF.out BW.out) hjl
      have hx := HF.out.each l[j] (List.getElem_mem hjl)
      have hxb := mem_total l l[j] (List.getElem_mem hjl)
      have CT := Lib.hid (cat_take l j hjl)
      have HX := Lib.hid (And.intro hx (Nat.le_trans hxb H2.out))
      generalize hxe : l[j] = x at *
      clear hx hxb hxe
      have h1 : (j : Int) < (l.length : Int) := by omega
      have h0 : (0 : Int) ≤ (j : Int) := by omega
      go_wp2_with fail
      refine (plain_any wr _ x.n HX.out.1.1 x.A x.b x.c ((HX.out.1.2.below BW.out).up BW.out.size)).mono ?_
      rintro e w3 ⟨A3, c3, rfl, hby, hb3⟩
      have es := run_str (P := Try.prog) w3 25 5 Try.underlying25 Try.underlying5 hby c3 9 Try.underlying9
      have S3 := Lib.hid (next BW.out hb3)
      clear hby hb3 hc0 hc1 hc2
      have XO := Lib.hid (show OneF.out x = bytesOf (x.sz.toNat : Int) x.n x.b from rfl)
      generalize bytesOf (x.sz.toNat : Int) x.n x.b = r at *
      have T4 := Lib.hid (show cat (l.take (j + 1)) = cat (l.take j) ++ r from by rw [CT.out, XO.out])
      have htl : ((cat (l.take j) ++ r).length : Int) ≤ 3000 := by
        rw [← T4.out]
        have h1 := cat_len (l.take (j + 1))
        have h2 := total_take_le l (j + 1)
        have h3 := H2.out
        rw [List.length_take] at h1
        omega
      have hsum : ¬ 9223372036854775807 < (str (cat (l.take j))).size + (str r).size := by
        rw [List.length_append] at htl
        show ¬ 9223372036854775807 < (cat (l.take j)).length + r.length
        omega
      clear htl
      go_wp2_with fail
      rw [str_app]
      clear es hsum
      go_roundw
      case rel => exact ⟨j + 1, rfl, by rw [T4.out], hjl, S3.out⟩
      case measure => simp [intOf]; omega
    · obtain rfl : j = l.length := by omega
      rw [List.take_length]
      have hcl : (cat l).length ≤ 3000 := by
        have h1 := cat_len l
        have h3 := H2.out
        omega
      have hcli : ((cat l).length : Int) ≤ 3000 := by omega
      obtain ⟨n, hn⟩ : ∃ n : Nat, u % ((cat l).length + 1 : Int) = (n : Int) := ⟨(u % ((cat l).length + 1 : Int)).toNat, by have := Int.emod_nonneg u (show ((cat l).length + 1 : Int) ≠ 0 by omega); omega⟩
      have hnl : n ≤ (cat l).length := by
        have := Int.emod_lt_of_pos u (show (0 : Int) < ((cat l).length + 1 : Int) by omega)
        omega
      have hsz : ((str (cat l)).size : Int) = ((cat l).length : Int) := rfl
      have CX := Lib.hid (cut_extract (cat l) n)
      go_wp2_with ((with_reducible show wpList _ _ _ ((⟨some 41, _, _, _, _, _⟩ : Oper) :: _) _ _); refine wpList_bytesOf _ (by rfl) 9 25 _ rfl 5 Try.underlying9 Try.underlying25 Try.underlying5 ((cat l).take n) (congrArg Value.string CX.out) ?_; intro c1 w2 hc1 hr2 hb2 hsz2)
      have hTl : ((cat l).take n).length = n := by rw [List.length_take]; omega
      have R2 := Lib.hid (And.intro hr2.cells (And.intro (next BW.out hb2) hTl))
      have CN := Lib.hid hnl
      clear hr2 hb2 hsz2 hc1 hTl hn hsz CX
      generalize hT : (cat l).take n = T at *
      have HT := Lib.hid hT
      clear hT
      refine (open_has w2 _ T n c1 R2.out.2.2.symm (by omega) R2.out.1).mono ?_
      rintro e w3 ⟨p, rfl, hr3, hb3⟩
      have H3 := Lib.hid (And.intro hr3 (next R2.out.2.1 hb3))
      have HW2 := Lib.hid R2.out.2.1.size
      have HTL := Lib.hid R2.out.2.2
      clear hr3 hb3 R2
      go_wp2_with fail
      go_loopw [9, 10] (fun a i wr => ∃ (j k : Nat) (f : Bool), i = .int .i64 (j : Int) ∧ a = .int .i64 ((cat (l.take j)).length : Nat) ∧ j ≤ l.length ∧ HasR w2.heap.size p T k f wr ∧ Below w.heap.size w wr ∧ (f = true ∨ (f = false ∧ k = (cat (l.take j)).length ∧ k ≤ n))) (fun _ i _ => l.length - (intOf i).toNat)
      case atStart => exact ⟨0, 0, false, rfl, rfl, Nat.zero_le _, H3.out.1, H3.out.2, .inr ⟨rfl, rfl, Nat.zero_le _⟩⟩
      case round =>
        clear H3
        obtain ⟨j, k, f, rfl, rfl, hj, hR, hB, hst⟩ := hrel
        have RR := Lib.hid (And.intro hR hB)
        have ST := Lib.hid hst
        clear hR hB hst
        by_cases hjl : j < l.length
        · obtain ⟨g, off, rfl, hgl, hc0, hc1, hc2⟩ := Flds.at_ (Flds.below HF.out RR.out.2) hjl
          have hx := HF.out.each l[j] (List.getElem_mem hjl)
          have hxb := mem_total l l[j] (List.getElem_mem hjl)
          have CT := Lib.hid (cat_take l j hjl)
          have CS := Lib.hid (cat_split' l j hjl)
          have HX := Lib.hid (And.intro hx (Nat.le_trans hxb H2.out))
          have hL0 : (cat (l.take j)).length ≤ 3000 := by
            have h1 := cat_len (l.take j)
            have h2 := total_take_le l j
            have h3 := H2.out
            rw [List.length_take] at h1
            omega
          generalize hxe : l[j] = x at *
          have XE := Lib.hid hxe
          clear hx hxb hxe
          have h1 : (j : Int) < (l.length : Int) := by omega
          have h0 : (0 : Int) ≤ (j : Int) := by omega
          have KF := Lib.hid (show ∀ w' : World, Below w.heap.size w w' → w'.cell? ⟨g, off + j * 3, none⟩ = some (.int .u8 (x.sz.toNat : Int)) ∧ w'.cell? ⟨g, off + j * 3 + 1, none⟩ = some (.int .u64 (x.n : Int)) ∧ w'.cell? ⟨g, off + j * 3 + 2, none⟩ = some (.slice x.A x.b.length x.c) from fun w' hb => by
            obtain ⟨b', off', e', _, hd0, hd1, hd2⟩ := Flds.at_ (Flds.below HF.out hb) hjl
            injection e' with e'
            have e1 := congrArg Addr.block e'
            have e2 := congrArg Addr.off e'
            simp only at e1 e2
            subst e1; subst e2
            rw [XE.out] at hd0 hd1 hd2
            exact ⟨hd0, hd1, hd2⟩)
          go_wp2_with fail
          refine (plain_any wr _ x.n HX.out.1.1 x.A x.b x.c ((HX.out.1.2.below RR.out.2).up RR.out.2.size)).mono ?_
          rintro e w4 ⟨A4, c4, rfl, hby, hb4⟩
          have R4 := Lib.hid (And.intro (RR.out.1.keep hb4) (next RR.out.2 hb4))
          have BY := Lib.hid hby
          clear hby hb4 hc0 hc1 hc2 RR
          have hrl : (bytesOf (x.sz.toNat : Int) x.n x.b).length ≤ 2008 := by
            have h1 := out_len x
            have h2 := HX.out.2
            unfold OneF.out at h1
            omega
          have hy : sizeI (x.sz.toNat : Int) = 0 ∨ (sizeI (x.sz.toNat : Int) == 0) = false ∧ (sizeI (x.sz.toNat : Int) = 1 ∨ sizeI (x.sz.toNat : Int) = 2 ∨ sizeI (x.sz.toNat : Int) = 4 ∨ sizeI (x.sz.toNat : Int) = 8) ∧ bytesOf (x.sz.toNat : Int) x.n x.b = be (sizeI (x.sz.toNat : Int)).toNat x.n := by
            by_cases h : sizeI (x.sz.toNat : Int) = 0
            · exact .inl h
            · refine .inr ⟨by simpa using h, ?_, by rw [bytesOf, if_neg h]⟩
              unfold sizeI at h ⊢
              split <;> simp_all
          have HY := Lib.hid hy
          have CT2 := Lib.hid (show (cat (l.take (j + 1))).length = (cat (l.take j)).length + (bytesOf (x.sz.toNat : Int) x.n x.b).length from by rw [CT.out, List.length_append]; rfl)
          have CS2 := Lib.hid (show cat l = cat (l.take j) ++ bytesOf (x.sz.toNat : Int) x.n x.b ++ cat (l.drop (j + 1)) from CS.out)
          clear hy CT CS XE
          generalize bytesOf (x.sz.toNat : Int) x.n x.b = r at *
          have hcase : (f = false ∧ k = (cat (l.take j)).length ∧ (cat (l.take j)).length + r.length ≤ n) ∨ (f = false ∧ k = (cat (l.take j)).length ∧ k ≤ n ∧ ¬ (cat (l.take j)).length + r.length ≤ n) ∨ f = true := by
            rcases ST.out with h | ⟨h1, h2, h3⟩
            · exact .inr (.inr h)
            · by_cases h4 : (cat (l.take j)).length + r.length ≤ n
              · exact .inl ⟨h1, h2, h4⟩
              · exact .inr (.inl ⟨h1, h2, h3, h4⟩)
          have hreads : (f = false ∧ k = (cat (l.take j)).length ∧ (cat (l.take j)).length + r.length ≤ n) → got T k f (r.length : Int) = r ∧ goes T k f (r.length : Int) = (cat (l.take j)).length + r.length ∧ bad T k f (r.length : Int) = false := by
            rintro ⟨rfl, rfl, h⟩
            rw [← HT.out]
            exact cut_reads CS2.out h CN.out
          have hfails : (f = true ∨ (f = false ∧ k = (cat (l.take j)).length ∧ k ≤ n ∧ ¬ (cat (l.take j)).length + r.length ≤ n)) → got T k f (r.length : Int) = [] ∧ goes T k f (r.length : Int) = k ∧ bad T k f (r.length : Int) = true := by
            intro h
            refine cut_fails ?_
            rcases h with h | ⟨h1, h2, h3, h4⟩
            · exact .inl h
            · exact .inr ⟨h1, by rw [HTL.out]; exact h3, by rw [HTL.out, h2]; omega⟩
          have HRD := Lib.hid hreads
          have HFL := Lib.hid hfails
          have HC := Lib.hid hcase
          clear hreads hfails hcase
          have hl0 : ((cat (l.take j)).length : Int) + (r.length : Int) ≤ 6000 := by omega
          generalize (cat (l.take j)).length = L0 at *
          have hr0 : (r.length : Int) ≤ 2008 := by omega
          go_wp2_with fail
          refine (bad_has R4.out.1).mono ?_
          rintro e w' ⟨rfl, rfl⟩
          rcases HY.out with hz | ⟨hy0, hyy, hbe⟩
          · have HZ := Lib.hid hz
            clear hz
            rcases HC.out with ⟨rfl, rfl, hw⟩ | ⟨rfl, rfl, hk, hw⟩ | rfl
            · have HG := Lib.hid (HRD.out ⟨rfl, rfl, hw⟩)
              have HLF := Lib.hid (show ((left T (k + r.length) false : Nat) : Int) = (n : Int) - ((k : Int) + (r.length : Int)) from by rw [left, if_neg (by simp), HTL.out]; omega)
              have hwi : (k : Int) + (r.length : Int) ≤ (n : Int) := by omega
              have HW := Lib.hid hw
              clear hw
              obtain ⟨hd0, hd1, hd2⟩ := KF.out _ R4.out.2
              go_wp2_with fail
              refine (size_any _ _ _ _ _ _).mono ?_
              rintro e w5 ⟨rfl, hb5⟩
              have R5 := Lib.hid (And.intro (R4.out.1.keep hb5) (next R4.out.2 hb5))
              have B5 := Lib.hid (BY.out.below hb5)
              have S5 := Lib.hid hb5.size
              clear hb5 R4 hd0 hd1 hd2
              rw [HZ.out]
              go_wp2_with fail
              refine (rraw_has (r.length : Int) R5.out.1).mono ?_
              rintro e w6 ⟨A6, c6, rfl, ho6, hr6, hf6⟩
              have B6 := Lib.hid (bytes_other (B5.out.up S5.out) R5.out.1 hf6)
              rw [HG.out.1] at ho6 ⊢
              rw [HG.out.2.1, HG.out.2.2] at hr6
              have R6 := Lib.hid (And.intro hr6 (R5.out.2.trans (hf6.below R5.out.2.size fun i hi => hi ▸ (Nat.le_trans HW2.out R5.out.1.at_))))
              have es6 := run_str (P := Try.prog) w6 25 5 Try.underlying25 Try.underlying5 ho6.bytes c6 9 Try.underlying9
              have es7 := run_str (P := Try.prog) w6 25 5 Try.underlying25 Try.underlying5 B6.out c4 9 Try.underlying9
              clear ho6 hr6 hf6
              go_wp2_with fail
              refine (left_has R6.out.1).mono ?_
              rintro e w8 ⟨rfl, hb8⟩
              have R8 := Lib.hid (And.intro (R6.out.1.keep hb8) (next R6.out.2 hb8))
              rw [HLF.out]
              clear hb8 es6 es7
              go_wp2_with fail
              go_roundw
              case rel => exact ⟨j + 1, k + r.length, false, rfl, by rw [CT2.out]; rfl, hjl, R8.out.1, R8.out.2, .inr ⟨rfl, CT2.out.symm, HW.out⟩⟩
              case measure => simp [intOf]; omega
            · have HG := Lib.hid (HFL.out (.inr ⟨rfl, rfl, hk, hw⟩))
              have hwi : ¬ (k : Int) + (r.length : Int) ≤ (n : Int) := by omega
              have hwd : decide ((k : Int) + (r.length : Int) ≤ (n : Int)) = false := by simpa using hwi
              have HW := Lib.hid hw
              clear hw
              have hs0 : str [] = (⟨#[]⟩ : ByteArray) := rfl
              obtain ⟨hd0, hd1, hd2⟩ := KF.out _ R4.out.2
              go_wp2_with fail
              refine (size_any _ _ _ _ _ _).mono ?_
              rintro e w5 ⟨rfl, hb5⟩
              have R5 := Lib.hid (And.intro (R4.out.1.keep hb5) (next R4.out.2 hb5))
              have B5 := Lib.hid (BY.out.below hb5)
              have S5 := Lib.hid hb5.size
              clear hb5 R4 hd0 hd1 hd2
              rw [HZ.out]
              go_wp2_with fail
              refine (rraw_has (r.length : Int) R5.out.1).mono ?_
              rintro e w6 ⟨A6, c6, rfl, ho6, hr6, hf6⟩
              have B6 := Lib.hid (bytes_other (B5.out.up S5.out) R5.out.1 hf6)
              rw [HG.out.1] at ho6 ⊢
              rw [HG.out.2.1, HG.out.2.2] at hr6
              have R6 := Lib.hid (And.intro hr6 (R5.out.2.trans (hf6.below R5.out.2.size fun i hi => hi ▸ (Nat.le_trans HW2.out R5.out.1.at_))))
              have es6 := run_str (P := Try.prog) w6 25 5 Try.underlying25 Try.underlying5 ho6.bytes c6 9 Try.underlying9
              rw [List.length_nil] at es6
              clear ho6 hr6 hf6
              go_wp2_with fail
              refine (bad_has R6.out.1).mono ?_
              rintro e w' ⟨rfl, rfl⟩
              go_wp2_with fail
              refine (left_has R6.out.1).mono ?_
              rintro e w8 ⟨rfl, hb8⟩
              have R8 := Lib.hid (And.intro (R6.out.1.keep hb8) (next R6.out.2 hb8))
              rw [show left T k true = 0 from if_pos rfl]
              obtain ⟨hd0, hd1, hd2⟩ := KF.out _ R8.out.2
              clear hb8 es6
              go_wp2_with fail
              refine (size_any _ _ _ _ _ _).mono ?_
              rintro e w9 ⟨rfl, hb9⟩
              have R9 := Lib.hid (And.intro (R8.out.1.keep hb9) (next R8.out.2 hb9))
              rw [HZ.out]
              clear hb9 hd0 hd1 hd2
              obtain ⟨hd0, hd1, hd2⟩ := KF.out _ R9.out.2
              go_wp2_with fail
              refine (size_any _ _ _ _ _ _).mono ?_
              rintro e w10 ⟨rfl, hb10⟩
              have R10 := Lib.hid (And.intro (R9.out.1.keep hb10) (next R9.out.2 hb10))
              rw [HZ.out]
              clear hb10 hd0 hd1 hd2
              go_wp2_with fail
              go_roundw
              case rel => exact ⟨j + 1, k, true, rfl, by rw [CT2.out]; rfl, hjl, R10.out.1, R10.out.2, .inl rfl⟩
              case measure => simp [intOf]; omega
            · have HG := Lib.hid (HFL.out (.inl rfl))
              have hs0 : str [] = (⟨#[]⟩ : ByteArray) := rfl
              obtain ⟨hd0, hd1, hd2⟩ := KF.out _ R4.out.2
              go_wp2_with fail
              refine (size_any _ _ _ _ _ _).mono ?_
              rintro e w5 ⟨rfl, hb5⟩
              have R5 := Lib.hid (And.intro (R4.out.1.keep hb5) (next R4.out.2 hb5))
              have B5 := Lib.hid (BY.out.below hb5)
              have S5 := Lib.hid hb5.size
              clear hb5 R4 hd0 hd1 hd2
              rw [HZ.out]
              go_wp2_with fail
              refine (rraw_has (r.length : Int) R5.out.1).mono ?_
              rintro e w6 ⟨A6, c6, rfl, ho6, hr6, hf6⟩
              have B6 := Lib.hid (bytes_other (B5.out.up S5.out) R5.out.1 hf6)
              rw [HG.out.1] at ho6 ⊢
              rw [HG.out.2.1, HG.out.2.2] at hr6
              have R6 := Lib.hid (And.intro hr6 (R5.out.2.trans (hf6.below R5.out.2.size fun i hi => hi ▸ (Nat.le_trans HW2.out R5.out.1.at_))))
              have es6 := run_str (P := Try.prog) w6 25 5 Try.underlying25 Try.underlying5 ho6.bytes c6 9 Try.underlying9
              rw [List.length_nil] at es6
              clear ho6 hr6 hf6
              go_wp2_with fail
              refine (bad_has R6.out.1).mono ?_
              rintro e w' ⟨rfl, rfl⟩
              go_wp2_with fail
              refine (left_has R6.out.1).mono ?_
              rintro e w8 ⟨rfl, hb8⟩
              have R8 := Lib.hid (And.intro (R6.out.1.keep hb8) (next R6.out.2 hb8))
              rw [show left T k true = 0 from if_pos rfl]
              obtain ⟨hd0, hd1, hd2⟩ := KF.out _ R8.out.2
              clear hb8 es6
              go_wp2_with fail
              refine (size_any _ _ _ _ _ _).mono ?_
              rintro e w9 ⟨rfl, hb9⟩
              have R9 := Lib.hid (And.intro (R8.out.1.keep hb9) (next R8.out.2 hb9))
              rw [HZ.out]
              clear hb9 hd0 hd1 hd2
              obtain ⟨hd0, hd1, hd2⟩ := KF.out _ R9.out.2
              go_wp2_with fail
              refine (size_any _ _ _ _ _ _).mono ?_
              rintro e w10 ⟨rfl, hb10⟩
              have R10 := Lib.hid (And.intro (R9.out.1.keep hb10) (next R9.out.2 hb10))
              rw [HZ.out]
              clear hb10 hd0 hd1 hd2
              go_wp2_with fail
              go_roundw
              case rel => exact ⟨j + 1, k, true, rfl, by rw [CT2.out]; rfl, hjl, R10.out.1, R10.out.2, .inl rfl⟩
              case measure => simp [intOf]; omega
          · have HYY0 := Lib.hid hyy
            obtain ⟨y, hsy⟩ : ∃ y, sizeI (x.sz.toNat : Int) = y := ⟨_, rfl⟩
            rw [hsy] at hy0 hbe HYY0
            have HYY := Lib.hid (show y = 1 ∨ y = 2 ∨ y = 4 ∨ y = 8 from HYY0.out)
            have HSY := Lib.hid hsy
            have HRL := Lib.hid (show (r.length : Int) = y from by rw [hbe, be_len]; have := HYY.out; omega)
            have HBN := Lib.hid (show be r.length (num r) = r from be_num r)
            have HNR := Lib.hid (show num r < 256 ^ 8 from Nat.lt_of_lt_of_le (num_lt r) (Nat.pow_le_pow_right (by decide) (by have := HYY.out; have := HRL.out; omega)))
            have hy1 : (0 : Int) < y := by have := HYY.out; omega
            clear hsy hyy hbe HY
            rcases HC.out with ⟨rfl, rfl, hw⟩ | ⟨rfl, rfl, hk, hw⟩ | rfl
            · have HG := Lib.hid (HRD.out ⟨rfl, rfl, hw⟩)
              have HLF := Lib.hid (show ((left T (k + r.length) false : Nat) : Int) = (n : Int) - ((k : Int) + (r.length : Int)) from by rw [left, if_neg (by simp), HTL.out]; omega)
              have hwi : (k : Int) + (r.length : Int) ≤ (n : Int) := by omega
              have HW := Lib.hid hw
              clear hw
              obtain ⟨hd0, hd1, hd2⟩ := KF.out _ R4.out.2
              go_wp2_with fail
              refine (size_any _ _ _ _ _ _).mono ?_
              rintro e w5 ⟨rfl, hb5⟩
              have R5 := Lib.hid (And.intro (R4.out.1.keep hb5) (next R4.out.2 hb5))
              have B5 := Lib.hid (BY.out.below hb5)
              have S5 := Lib.hid hb5.size
              clear hb5 R4 hd0 hd1 hd2
              rw [HSY.out]
              go_wp2_with fail
              refine (get_has R5.out.1 (r.length : Int) (by rw [HRL.out]; exact HYY.out)).mono ?_
              rintro e w6 ⟨rfl, hr6, hf6⟩
              have B6 := Lib.hid (bytes_other (B5.out.up S5.out) R5.out.1 hf6)
              rw [HG.out.1]
              rw [HG.out.2.1, HG.out.2.2] at hr6
              have R6 := Lib.hid (And.intro hr6 (R5.out.2.trans (hf6.below R5.out.2.size fun i hi => hi ▸ (Nat.le_trans HW2.out R5.out.1.at_))))
              clear hr6 hf6
              go_wp2_with fail
              refine (bytes_any w6 _ HNR.out (r.length : Int) (by rw [HRL.out]; exact HYY.out)).mono ?_
              rintro e w7 ⟨A7, c7, rfl, ho7, hb7⟩
              have R7 := Lib.hid (And.intro (R6.out.1.keep hb7) (next R6.out.2 hb7))
              have B7 := Lib.hid (B6.out.below hb7)
              rw [Int.toNat_natCast, HBN.out] at ho7 ⊢
              have es6 := run_str (P := Try.prog) w7 25 5 Try.underlying25 Try.underlying5 ho7.bytes c7 9 Try.underlying9
              have es7 := run_str (P := Try.prog) w7 25 5 Try.underlying25 Try.underlying5 B7.out c4 9 Try.underlying9
              clear ho7 hb7
              go_wp2_with fail
              refine (left_has R7.out.1).mono ?_
              rintro e w8 ⟨rfl, hb8⟩
              have R8 := Lib.hid (And.intro (R7.out.1.keep hb8) (next R7.out.2 hb8))
              rw [HLF.out]
              clear hb8 es6 es7
              go_wp2_with fail
              go_roundw
              case rel => exact ⟨j + 1, k + r.length, false, rfl, by rw [CT2.out]; rfl, hjl, R8.out.1, R8.out.2, .inr ⟨rfl, CT2.out.symm, HW.out⟩⟩
              case measure => simp [intOf]; omega
            · have HG := Lib.hid (HFL.out (.inr ⟨rfl, rfl, hk, hw⟩))
              have hwi : ¬ (k : Int) + (r.length : Int) ≤ (n : Int) := by omega
              have hwd : decide ((k : Int) + (r.length : Int) ≤ (n : Int)) = false := by simpa using hwi
              have HW := Lib.hid hw
              clear hw
              obtain ⟨hd0, hd1, hd2⟩ := KF.out _ R4.out.2
              go_wp2_with fail
              refine (size_any _ _ _ _ _ _).mono ?_
              rintro e w5 ⟨rfl, hb5⟩
              have R5 := Lib.hid (And.intro (R4.out.1.keep hb5) (next R4.out.2 hb5))
              have B5 := Lib.hid (BY.out.below hb5)
              have S5 := Lib.hid hb5.size
              clear hb5 R4 hd0 hd1 hd2
              rw [HSY.out]
              go_wp2_with fail
              refine (get_has R5.out.1 (r.length : Int) (by rw [HRL.out]; exact HYY.out)).mono ?_
              rintro e w6 ⟨rfl, hr6, hf6⟩
              have B6 := Lib.hid (bytes_other (B5.out.up S5.out) R5.out.1 hf6)
              rw [HG.out.1]
              rw [HG.out.2.1, HG.out.2.2] at hr6
              have R6 := Lib.hid (And.intro hr6 (R5.out.2.trans (hf6.below R5.out.2.size fun i hi => hi ▸ (Nat.le_trans HW2.out R5.out.1.at_))))
              clear hr6 hf6
              go_wp2_with fail
              refine (bytes_any w6 _ (by decide) (r.length : Int) (by rw [HRL.out]; exact HYY.out)).mono ?_
              rintro e w7 ⟨A7, c7, rfl, ho7, hb7⟩
              have R7 := Lib.hid (And.intro (R6.out.1.keep hb7) (next R6.out.2 hb7))
              have B7 := Lib.hid (B6.out.below hb7)
              rw [Int.toNat_natCast, show num [] = 0 from rfl, zero_be] at ho7 ⊢
              have es6 := run_str (P := Try.prog) w7 25 5 Try.underlying25 Try.underlying5 ho7.bytes c7 9 Try.underlying9
              rw [List.length_replicate] at es6
              clear ho7 hb7
              generalize hs0 : str (List.replicate r.length 0) = s0 at *
              have HS0 := Lib.hid hs0
              clear hs0
              go_wp2_with fail
              refine (bad_has R7.out.1).mono ?_
              rintro e w' ⟨rfl, rfl⟩
              go_wp2_with fail
              refine (left_has R7.out.1).mono ?_
              rintro e w8 ⟨rfl, hb8⟩
              have R8 := Lib.hid (And.intro (R7.out.1.keep hb8) (next R7.out.2 hb8))
              rw [show left T k true = 0 from if_pos rfl]
              obtain ⟨hd0, hd1, hd2⟩ := KF.out _ R8.out.2
              clear hb8 es6
              go_wp2_with fail
              refine (size_any _ _ _ _ _ _).mono ?_
              rintro e w9 ⟨rfl, hb9⟩
              have R9 := Lib.hid (And.intro (R8.out.1.keep hb9) (next R8.out.2 hb9))
              rw [HSY.out]
              clear hb9 hd0 hd1 hd2
              obtain ⟨hd0, hd1, hd2⟩ := KF.out _ R9.out.2
              go_wp2_with fail
              refine (size_any _ _ _ _ _ _).mono ?_
              rintro e w10 ⟨rfl, hb10⟩
              have R10 := Lib.hid (And.intro (R9.out.1.keep hb10) (next R9.out.2 hb10))
              rw [HSY.out]
              clear hb10 hd0 hd1 hd2
              have hyy := HYY.out
              rcases hyy with rfl | rfl | rfl | rfl
              · have hr1 : r.length = 1 := by have := HRL.out; omega
                have hri : (r.length : Int) = 1 := HRL.out
                have hmk := make1 w10
                have hz := (zeros_own w10 1 (by decide) 0).bytes
                have ez := run_str (P := Try.prog) (w10.alloc (.cells (List.replicate 1 (Value.int .u8 0)).toArray 5)) 25 5 Try.underlying25 Try.underlying5 hz 1 9 Try.underlying9
                rw [show (str (List.replicate (1 - 0) 0 ++ be 0 0)) = s0 from by rw [← HS0.out, hr1]; rfl] at ez
                simp only [List.length_append, List.length_replicate, be_len, Nat.sub_zero, Nat.add_zero] at ez
                have HB11 := Lib.hid (nextA (Mem.start w10) (.cells (List.replicate 1 (Value.int .u8 0)).toArray 5))
                have HR1 := Lib.hid hr1
                clear hz hr1 hr0
                generalize (List.replicate 1 (Value.int .u8 0)).toArray = zs at *
                go_wp2_with fail
                go_roundw
                case rel => exact ⟨j + 1, k, true, rfl, by rw [CT2.out, HR1.out]; rfl, hjl, R10.out.1.keep HB11.out, next R10.out.2 HB11.out, .inl rfl⟩
                case measure => simp [intOf]; omega
              · have hr1 : r.length = 2 := by have := HRL.out; omega
                have hri : (r.length : Int) = 2 := HRL.out
                have hmk := make2 w10
                have hz := (zeros_own w10 2 (by decide) 0).bytes
                have ez := run_str (P := Try.prog) (w10.alloc (.cells (List.replicate 2 (Value.int .u8 0)).toArray 5)) 25 5 Try.underlying25 Try.underlying5 hz 2 9 Try.underlying9
                rw [show (str (List.replicate (2 - 0) 0 ++ be 0 0)) = s0 from by rw [← HS0.out, hr1]; rfl] at ez
                simp only [List.length_append, List.length_replicate, be_len, Nat.sub_zero, Nat.add_zero] at ez
                have HB11 := Lib.hid (nextA (Mem.start w10) (.cells (List.replicate 2 (Value.int .u8 0)).toArray 5))
                have HR1 := Lib.hid hr1
                clear hz hr1 hr0
                generalize (List.replicate 2 (Value.int .u8 0)).toArray = zs at *
                go_wp2_with fail
                go_roundw
                case rel => exact ⟨j + 1, k, true, rfl, by rw [CT2.out, HR1.out]; rfl, hjl, R10.out.1.keep HB11.out, next R10.out.2 HB11.out, .inl rfl⟩
                case measure => simp [intOf]; omega
              · have hr1 : r.length = 4 := by have := HRL.out; omega
                have hri : (r.length : Int) = 4 := HRL.out
                have hmk := make4 w10
                have hz := (zeros_own w10 4 (by decide) 0).bytes
                have ez := run_str (P := Try.prog) (w10.alloc (.cells (List.replicate 4 (Value.int .u8 0)).toArray 5)) 25 5 Try.underlying25 Try.underlying5 hz 4 9 Try.underlying9
                rw [show (str (List.replicate (4 - 0) 0 ++ be 0 0)) = s0 from by rw [← HS0.out, hr1]; rfl] at ez
                simp only [List.length_append, List.length_replicate, be_len, Nat.sub_zero, Nat.add_zero] at ez
                have HB11 := Lib.hid (nextA (Mem.start w10) (.cells (List.replicate 4 (Value.int .u8 0)).toArray 5))
                have HR1 := Lib.hid hr1
                clear hz hr1 hr0
                generalize (List.replicate 4 (Value.int .u8 0)).toArray = zs at *
                go_wp2_with fail
                go_roundw
                case rel => exact ⟨j + 1, k, true, rfl, by rw [CT2.out, HR1.out]; rfl, hjl, R10.out.1.keep HB11.out, next R10.out.2 HB11.out, .inl rfl⟩
                case measure => simp [intOf]; omega
              · have hr1 : r.length = 8 := by have := HRL.out; omega
                have hri : (r.length : Int) = 8 := HRL.out
                have hmk := make8 w10
                have hz := (zeros_own w10 8 (by decide) 0).bytes
                have ez := run_str (P := Try.prog) (w10.alloc (.cells (List.replicate 8 (Value.int .u8 0)).toArray 5)) 25 5 Try.underlying25 Try.underlying5 hz 8 9 Try.underlying9
                rw [show (str (List.replicate (8 - 0) 0 ++ be 0 0)) = s0 from by rw [← HS0.out, hr1]; rfl] at ez
                simp only [List.length_append, List.length_replicate, be_len, Nat.sub_zero, Nat.add_zero] at ez
                have HB11 := Lib.hid (nextA (Mem.start w10) (.cells (List.replicate 8 (Value.int .u8 0)).toArray 5))
                have HR1 := Lib.hid hr1
                clear hz hr1 hr0
                generalize (List.replicate 8 (Value.int .u8 0)).toArray = zs at *
                go_wp2_with fail
                go_roundw
                case rel => exact ⟨j + 1, k, true, rfl, by rw [CT2.out, HR1.out]; rfl, hjl, R10.out.1.keep HB11.out, next R10.out.2 HB11.out, .inl rfl⟩
                case measure => simp [intOf]; omega
            · have HG := Lib.hid (HFL.out (.inl rfl))
              obtain ⟨hd0, hd1, hd2⟩ := KF.out _ R4.out.2
              go_wp2_with fail
              refine (size_any _ _ _ _ _ _).mono ?_
              rintro e w5 ⟨rfl, hb5⟩
              have R5 := Lib.hid (And.intro (R4.out.1.keep hb5) (next R4.out.2 hb5))
              have B5 := Lib.hid (BY.out.below hb5)
              have S5 := Lib.hid hb5.size
              clear hb5 R4 hd0 hd1 hd2
              rw [HSY.out]
              go_wp2_with fail
              refine (get_has R5.out.1 (r.length : Int) (by rw [HRL.out]; exact HYY.out)).mono ?_
              rintro e w6 ⟨rfl, hr6, hf6⟩
              have B6 := Lib.hid (bytes_other (B5.out.up S5.out) R5.out.1 hf6)
              rw [HG.out.1]
              rw [HG.out.2.1, HG.out.2.2] at hr6
              have R6 := Lib.hid (And.intro hr6 (R5.out.2.trans (hf6.below R5.out.2.size fun i hi => hi ▸ (Nat.le_trans HW2.out R5.out.1.at_))))
              clear hr6 hf6
              go_wp2_with fail
              refine (bytes_any w6 _ (by decide) (r.length : Int) (by rw [HRL.out]; exact HYY.out)).mono ?_
              rintro e w7 ⟨A7, c7, rfl, ho7, hb7⟩
              have R7 := Lib.hid (And.intro (R6.out.1.keep hb7) (next R6.out.2 hb7))
              have B7 := Lib.hid (B6.out.below hb7)
              rw [Int.toNat_natCast, show num [] = 0 from rfl, zero_be] at ho7 ⊢
              have es6 := run_str (P := Try.prog) w7 25 5 Try.underlying25 Try.underlying5 ho7.bytes c7 9 Try.underlying9
              rw [List.length_replicate] at es6
              clear ho7 hb7
              generalize hs0 : str (List.replicate r.length 0) = s0 at *
              have HS0 := Lib.hid hs0
              clear hs0
              go_wp2_with fail
              refine (bad_has R7.out.1).mono ?_
              rintro e w' ⟨rfl, rfl⟩
              go_wp2_with fail
              refine (left_has R7.out.1).mono ?_
              rintro e w8 ⟨rfl, hb8⟩
              have R8 := Lib.hid (And.intro (R7.out.1.keep hb8) (next R7.out.2 hb8))
              rw [show left T k true = 0 from if_pos rfl]
              obtain ⟨hd0, hd1, hd2⟩ := KF.out _ R8.out.2
              clear hb8 es6
              go_wp2_with fail
              refine (size_any _ _ _ _ _ _).mono ?_
              rintro e w9 ⟨rfl, hb9⟩
              have R9 := Lib.hid (And.intro (R8.out.1.keep hb9) (next R8.out.2 hb9))
              rw [HSY.out]
              clear hb9 hd0 hd1 hd2
              obtain ⟨hd0, hd1, hd2⟩ := KF.out _ R9.out.2
              go_wp2_with fail
              refine (size_any _ _ _ _ _ _).mono ?_
              rintro e w10 ⟨rfl, hb10⟩
              have R10 := Lib.hid (And.intro (R9.out.1.keep hb10) (next R9.out.2 hb10))
              rw [HSY.out]
              clear hb10 hd0 hd1 hd2
              have hyy := HYY.out
              rcases hyy with rfl | rfl | rfl | rfl
              · have hr1 : r.length = 1 := by have := HRL.out; omega
                have hri : (r.length : Int) = 1 := HRL.out
                have hmk := make1 w10
                have hz := (zeros_own w10 1 (by decide) 0).bytes
                have ez := run_str (P := Try.prog) (w10.alloc (.cells (List.replicate 1 (Value.int .u8 0)).toArray 5)) 25 5 Try.underlying25 Try.underlying5 hz 1 9 Try.underlying9
                rw [show (str (List.replicate (1 - 0) 0 ++ be 0 0)) = s0 from by rw [← HS0.out, hr1]; rfl] at ez
                simp only [List.length_append, List.length_replicate, be_len, Nat.sub_zero, Nat.add_zero] at ez
                have HB11 := Lib.hid (nextA (Mem.start w10) (.cells (List.replicate 1 (Value.int .u8 0)).toArray 5))
                have HR1 := Lib.hid hr1
                clear hz hr1 hr0
                generalize (List.replicate 1 (Value.int .u8 0)).toArray = zs at *
                go_wp2_with fail
                go_roundw
                case rel => exact ⟨j + 1, k, true, rfl, by rw [CT2.out, HR1.out]; rfl, hjl, R10.out.1.keep HB11.out, next R10.out.2 HB11.out, .inl rfl⟩
                case measure => simp [intOf]; omega
              · have hr1 : r.length = 2 := by have := HRL.out; omega
                have hri : (r.length : Int) = 2 := HRL.out
                have hmk := make2 w10
                have hz := (zeros_own w10 2 (by decide) 0).bytes
                have ez := run_str (P := Try.prog) (w10.alloc (.cells (List.replicate 2 (Value.int .u8 0)).toArray 5)) 25 5 Try.underlying25 Try.underlying5 hz 2 9 Try.underlying9
                rw [show (str (List.replicate (2 - 0) 0 ++ be 0 0)) = s0 from by rw [← HS0.out, hr1]; rfl] at ez
                simp only [List.length_append, List.length_replicate, be_len, Nat.sub_zero, Nat.add_zero] at ez
                have HB11 := Lib.hid (nextA (Mem.start w10) (.cells (List.replicate 2 (Value.int .u8 0)).toArray 5))
                have HR1 := Lib.hid hr1
                clear hz hr1 hr0
                generalize (List.replicate 2 (Value.int .u8 0)).toArray = zs at *
                go_wp2_with fail
                go_roundw
                case rel => exact ⟨j + 1, k, true, rfl, by rw [CT2.out, HR1.out]; rfl, hjl, R10.out.1.keep HB11.out, next R10.out.2 HB11.out, .inl rfl⟩
                case measure => simp [intOf]; omega
              · have hr1 : r.length = 4 := by have := HRL.out; omega
                have hri : (r.length : Int) = 4 := HRL.out
                have hmk := make4 w10
                have hz := (zeros_own w10 4 (by decide) 0).bytes
                have ez := run_str (P := Try.prog) (w10.alloc (.cells (List.replicate 4 (Value.int .u8 0)).toArray 5)) 25 5 Try.underlying25 Try.underlying5 hz 4 9 Try.underlying9
                rw [show (str (List.replicate (4 - 0) 0 ++ be 0 0)) = s0 from by rw [← HS0.out, hr1]; rfl] at ez
                simp only [List.length_append, List.length_replicate, be_len, Nat.sub_zero, Nat.add_zero] at ez
                have HB11 := Lib.hid (nextA (Mem.start w10) (.cells (List.replicate 4 (Value.int .u8 0)).toArray 5))
                have HR1 := Lib.hid hr1
                clear hz hr1 hr0
                generalize (List.replicate 4 (Value.int .u8 0)).toArray = zs at *
                go_wp2_with fail
                go_roundw
                case rel => exact ⟨j + 1, k, true, rfl, by rw [CT2.out, HR1.out]; rfl, hjl, R10.out.1.keep HB11.out, next R10.out.2 HB11.out, .inl rfl⟩
                case measure => simp [intOf]; omega
              · have hr1 : r.length = 8 := by have := HRL.out; omega
                have hri : (r.length : Int) = 8 := HRL.out
                have hmk := make8 w10
                have hz := (zeros_own w10 8 (by decide) 0).bytes
                have ez := run_str (P := Try.prog) (w10.alloc (.cells (List.replicate 8 (Value.int .u8 0)).toArray 5)) 25 5 Try.underlying25 Try.underlying5 hz 8 9 Try.underlying9
                rw [show (str (List.replicate (8 - 0) 0 ++ be 0 0)) = s0 from by rw [← HS0.out, hr1]; rfl] at ez
                simp only [List.length_append, List.length_replicate, be_len, Nat.sub_zero, Nat.add_zero] at ez
                have HB11 := Lib.hid (nextA (Mem.start w10) (.cells (List.replicate 8 (Value.int .u8 0)).toArray 5))
                have HR1 := Lib.hid hr1
                clear hz hr1 hr0
                generalize (List.replicate 8 (Value.int .u8 0)).toArray = zs at *
                go_wp2_with fail
                go_roundw
                case rel => exact ⟨j + 1, k, true, rfl, by rw [CT2.out, HR1.out]; rfl, hjl, R10.out.1.keep HB11.out, next R10.out.2 HB11.out, .inl rfl⟩
                case measure => simp [intOf]; omega
        · obtain rfl : j = l.length := by omega
          rw [List.take_length]
          go_wp2_with fail
          refine (works_any _).mono ?_
          rintro e w9 ⟨rfl, hb9⟩
          have H9 := Lib.hid (next RR.out.2 hb9)
          clear hb9
          go_wp2_with fail
          go_ret
          exact ⟨rfl, H9.out⟩

set_option maxHeartbeats 1000000 in
theorem cut_far (w : World) (A : Option Addr) (l : List OneF) (c : Nat) (hF : Flds w w.heap.size A l) (hm : (l.length : Int) ≤ 9223372036854775807) (hb : ∀ x ∈ l, x.b.length ≤ 140737488355328) (hfew : fewB l = false) (u : Int) :
    Calls Try.prog 6 #[.slice A l.length c, .int .u16 u] w fun e w' => e = .returned (.bool true) ∧ Below w.heap.size w w' := by
  have HFW := Lib.hid hfew
  have HBB := Lib.hid hb
  have HF := Lib.hid hF
  have HM := Lib.hid hm
  clear hfew hb hF hm
  go_enter Try.func6, Try.ntmps6
  go_wp2_with fail
  refine (few_any w A l c HF.out HM.out HBB.out).mono ?_
  rintro e w0 ⟨rfl, rfl⟩
  rw [HFW.out]
  go_wp2_with fail
  refine (works_any _).mono ?_
  rintro e w24 ⟨rfl, hb⟩
  have B24 := Lib.hid hb
  clear hb
  go_wp2_with fail
  go_ret
  exact ⟨rfl, B24.out⟩
/-- The law of cut bytes. -/
theorem cutLaw_any (w : World) (A : Option Addr) (l : List OneF) (c : Nat) (hle : l.length ≤ c) (hmx : c ≤ maxLen) (hF : Flds w w.heap.size A l) (hb : ∀ x ∈ l, x.b.length ≤ 140737488355328) (u : Int) (hu : 0 ≤ u ∧ u ≤ 65535) :
    Calls Try.prog 6 #[.slice A l.length c, .int .u16 u] w fun e w' => e = .returned (.bool true) ∧ Below w.heap.size w w' := by
  simp only [maxLen] at hmx
  cases h : fewB l
  · exact cut_far w A l c hF (by omega) hb h u
  · have := (few_iff l).1 h
    exact cut_near w A l c hF hb this.1 this.2 u hu.1 hu.2
end Go.Proofs.Ytbinffclijjhlaa.FdW
