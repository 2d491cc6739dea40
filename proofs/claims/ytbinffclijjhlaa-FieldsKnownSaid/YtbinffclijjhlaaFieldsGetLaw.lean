/- The law of reading: whatever is asked for, the program's reader tells what the document's does. -/
import Derived.Test.YtbinffclijjhlaaFieldsGetW
namespace Go.Proofs.Ytbinffclijjhlaa.FdW
open Go.RowKit Mem Fds
open Go.Proofs.Ytbinffclijjhlaa.Open (i16v)
set_option linter.unusedVariables false

theorem drewB (w : World) : Below w.heap.size w w.drew := nextN (Mem.start w) 1
theorem own_bytes_at {w1 w2 : World} {base c : Nat} {T : TypeId} {A : Option Addr} {l : List UInt8} (h : Own w1 base T A c (l.map u8v)) (hb : Below w1.heap.size w1 w2) : Bytes w2 w2.heap.size A l := (h.keep hb).bytes
theorem str_far {w w1 w2 : World} {A : Option Addr} {l : List UInt8} (h : Bytes w1 w.heap.size A l) (hw : Below w.heap.size w w1) (hb : Below w1.heap.size w1 w2) (c : Nat) : (convert 25 9 (.slice A l.length c)).run Try.prog w2 = .ok (.string (str l)) w2 :=
  run_str (P := Try.prog) w2 25 5 Try.underlying25 Try.underlying5 (h.below (hb.mono hw.size)) c 9 Try.underlying9
/-- The two readers, side by side. -/
def Both (w1 : World) (p q : Nat) (l : List UInt8) (k : Nat) (f : Bool) (wx : World) : Prop :=
  q ≠ p ∧ w1.heap.size ≤ q ∧ HasR w1.heap.size p l k f wx ∧ RR wx q l k f ∧ Below w1.heap.size w1 wx
def mb (l : List UInt8) : Obj := .cells #[.string (str l), .int .i64 0, .bool false] 40
theorem box_last {w1 w2 : World} {p : Nat} {l : List UInt8} (hl : l.length ≤ 10000000) (hr : HasR w1.drew.heap.size p l 0 false w2) (hb3 : Below w1.heap.size w1 w2) : Both w1 p w2.heap.size l 0 false (w2.alloc (mb l)) :=
  ⟨Nat.ne_of_gt hr.lt, hb3.size, hr.keep (nextA (Mem.start w2) _), ⟨Blk.new w2 _ _, Nat.zero_le _, hl⟩, nextA hb3 _⟩
theorem box_first {w1 w2 : World} {p : Nat} {l : List UInt8} (hl : l.length ≤ 10000000) (hr : HasR (w1.drew.alloc (mb l)).heap.size p l 0 false w2) (hb2 : Below (w1.drew.alloc (mb l)).heap.size (w1.drew.alloc (mb l)) w2) : Both w1 p w1.heap.size l 0 false w2 :=
  ⟨by have := hr.at_; simp at this; have e : w1.drew.heap.size = w1.heap.size := rfl; omega, Nat.le_refl _, hr.down (by simp), ⟨(Blk.new w1.drew _ _).keep hb2, Nat.zero_le _, hl⟩, next (nextA (drewB w1) _) hb2⟩
theorem xor8 (a b : Int) : ∃ x : UInt8, bits .xor .u8 a b = (x.toNat : Int) := by
  refine ⟨⟨BitVec.ofInt 8 a ^^^ BitVec.ofInt 8 b⟩, ?_⟩
  have h := (BitVec.ofInt 8 a ^^^ BitVec.ofInt 8 b).isLt
  show (((BitVec.ofInt 8 a ^^^ BitVec.ofInt 8 b).toNat : Nat) : Int) % 256 = (((BitVec.ofInt 8 a ^^^ BitVec.ofInt 8 b).toNat : Nat) : Int)
  omega
/-- The two readers and the law's own row; nothing older than the call has turned. -/
def Two (w w1 : World) (p q : Nat) (l : List UInt8) (k : Nat) (f : Bool) (wx : World) : Prop :=
  q ≠ p ∧ w1.heap.size ≤ q ∧ HasR w1.heap.size p l k f wx ∧ RR wx q l k f ∧ Below w.heap.size w wx ∧ w.heap.size ≤ w1.heap.size
theorem Both.two {w w1 wx : World} {p q k : Nat} {f : Bool} {l : List UInt8} (h : Both w1 p q l k f wx) (hb : Below w.heap.size w w1) : Two w w1 p q l k f wx :=
  ⟨h.1, h.2.1, h.2.2.1, h.2.2.2.1, next hb h.2.2.2.2, hb.size⟩
theorem Two.step {w w1 wx w5 w6 : World} {p q k k' : Nat} {f f' : Bool} {l : List UInt8} (h : Two w w1 p q l k f wx) (hr : HasR w1.heap.size p l k' f' w5) (hf5 : Fr (fun i => i = p) wx w5) (hrr : RR w6 q l k' f') (hf6 : Fr (fun i => i = q) w5 w6) (hq : RR w5 q l k f) : Two w w1 p q l k' f' w6 := by
  have hp := hr.at_
  have h1 := h.2.1
  have h5 := h.2.2.2.2.2
  have hb5 := h.2.2.2.2.1.trans (hf5.below h.2.2.2.2.1.size fun k hk => by subst hk; omega)
  exact ⟨h.1, h1, hr.other hf6 hq.blk (by decide) h.1.symm, hrr, hb5.trans (hf6.below hb5.size fun k hk => by subst hk; omega), h5⟩
theorem Two.drewN {w w1 wx : World} {p q k : Nat} {f : Bool} {l : List UInt8} (h : Two w w1 p q l k f wx) (m : Nat) : Two w w1 p q l k f (wx.drewN m) :=
  ⟨h.1, h.2.1, h.2.2.1.keep (nextN (Mem.start wx) m), h.2.2.2.1.keep (nextN (Mem.start wx) m), nextN h.2.2.2.2.1 m, h.2.2.2.2.2⟩
theorem bad_q {base p k : Nat} {f : Bool} {w : World} {l : List UInt8} (h : HasR base p l k f w) :
    Calls Try.prog 21 #[.pointer (some ⟨p, 0, none⟩)] w fun e w' => e = .returned (.bool f) ∧ ∃ m, w' = w.drewN m :=
  (bad_has h).mono fun e w' ⟨he, hw⟩ => ⟨he, 0, hw.symm⟩
theorem Two.set_ {w w1 wx : World} {p q k : Nat} {f : Bool} {l : List UInt8} (h : Two w w1 p q l k f wx) {g j : Nat} (h1 : w.heap.size ≤ g) (h2 : g < w1.heap.size) (u : Value) : Two w w1 p q l k f (wx.setCell ⟨g, j, none⟩ u) :=
  ⟨h.1, h.2.1, h.2.2.1.high ((Fr.refl _ wx).setCell (p := ⟨g, j, none⟩) (fun _ => h2) u), h.2.2.2.1.fr ((Fr.refl (fun i => i = g) wx).setCell (p := ⟨g, j, none⟩) (fun _ => rfl) u) (by have := h.2.1; omega), h.2.2.2.2.1.trans (((Fr.refl (fun i => i = g) wx).setCell (p := ⟨g, j, none⟩) (fun _ => rfl) u).below h.2.2.2.2.1.size fun k hk => by subst hk; exact h1), h.2.2.2.2.2⟩
/-- The two readers, which lie below u. -/
def TwoLow (w w1 : World) (p q : Nat) (l : List UInt8) (k : Nat) (f : Bool) (u : Nat) (wx : World) : Prop :=
  Two w w1 p q l k f wx ∧ Low w1.heap.size p l k f u wx ∧ q < u ∧ w.heap.size ≤ u
theorem Low.set_ {base p k u g j : Nat} {f : Bool} {w : World} {l : List UInt8} (h : Low base p l k f u w) (hg : u ≤ g) (v : Value) : Low base p l k f u (w.setCell ⟨g, j, none⟩ v) := by
  obtain ⟨A, c, hr, hp, hA⟩ := h
  have hf := (Fr.refl (fun i => i = g) w).setCell (p := ⟨g, j, none⟩) (fun _ => rfl) v
  exact ⟨A, c, hr.fr hf (by omega) fun g' hg' => by have := hA g' hg'; omega, hp, hA⟩
theorem Low.has {base p k u : Nat} {f : Bool} {w : World} {l : List UInt8} (h : Low base p l k f u w) : HasR base p l k f w := by
  obtain ⟨A, c, hr, hp, hA⟩ := h
  exact ⟨A, c, hr⟩
theorem TwoLow.set_ {w w1 wx : World} {p q k u g j : Nat} {f : Bool} {l : List UInt8} (h : TwoLow w w1 p q l k f u wx) (hg : u ≤ g) (v : Value) : TwoLow w w1 p q l k f u (wx.setCell ⟨g, j, none⟩ v) := by
  obtain ⟨⟨h1, h2, h3, h4, h5, h6⟩, hl, hq, hu⟩ := h
  have hl' := hl.set_ (j := j) hg v
  have hf := (Fr.refl (fun i => i = g) wx).setCell (p := ⟨g, j, none⟩) (fun _ => rfl) v
  exact ⟨⟨h1, h2, hl'.has, h4.fr hf (by omega), h5.trans (hf.below h5.size fun k hk => by subst hk; omega), h6⟩, hl', hq, hu⟩
theorem Two.raw {w w1 wx w5 w5' w6 : World} {p q k k' : Nat} {f f' : Bool} {l : List UInt8} (h : Two w w1 p q l k f wx) (hl : Low w1.heap.size p l k' f' wx.heap.size w5) (hf5 : Fr (fun i => i = p) wx w5) (hd : w5' = w5.drew) (hrr : RR w6 q l k' f') (hf6 : Fr (fun i => i = q) w5' w6) (hq : RR w5' q l k f) : TwoLow w w1 p q l k' f' wx.heap.size w6 := by
  subst hd
  have hlt := h.2.2.2.1.blk.lt
  have hsz := h.2.2.2.2.1.size
  obtain ⟨A, c, hr, hp, hA⟩ := hl
  have hr2 := hr.keep (drewB w5)
  have hr3 := hr2.fr hf6 h.1.symm fun g hg e => hq.blk.ne_own hr2.own (by decide) g hg e
  have h2 := h.step (w5 := w5.drew) ⟨A, c, hr2⟩ (hf5.drew) hrr hf6 hq
  exact ⟨h2, ⟨A, c, hr3, hp, hA⟩, hlt, hsz⟩
set_option maxHeartbeats 1000000 in
theorem get_far (w : World) (A : Option Addr) (l : List UInt8) (c : Nat) (B : Option Addr) (s : List Int) (d : Nat) (hm : (l.length : Int) ≤ 9223372036854775807) (hm2 : (s.length : Int) ≤ 9223372036854775807) (hfar : 3000 < l.length ∨ 60 < s.length) :
    Calls Try.prog 4 #[.slice A l.length c, .slice B s.length d] w fun e w' => e = .returned (.bool true) ∧ Below w.heap.size w w' := by
  by_cases h1 : (3000 : Int) < (l.length : Int)
  · go_enter Try.func4, Try.ntmps4
    go_wp2_with fail
    refine (works_any _).mono ?_
    rintro e w24 ⟨rfl, hb⟩
    have B24 := Lib.hid hb
    clear hb
    go_wp2_with fail
    go_ret
    exact ⟨rfl, B24.out⟩
  · have h2 : (60 : Int) < (s.length : Int) := by omega
    clear hfar
    go_enter Try.func4, Try.ntmps4
    go_wp2_with fail
    refine (works_any _).mono ?_
    rintro e w24 ⟨rfl, hb⟩
    have B24 := Lib.hid hb
    clear hb
    go_wp2_with fail
    go_ret
    exact ⟨rfl, B24.out⟩

set_option maxHeartbeats 2000000 in
set_option maxRecDepth 100000 in
theorem get_near (w : World) (A : Option Addr) (l : List UInt8) (c : Nat) (hA : Bytes w w.heap.size A l) (B : Option Addr) (s : List Int) (d : Nat) (hB : Cells w w.heap.size B (s.map i16v)) (hs : ∀ n ∈ s, -32768 ≤ n ∧ n ≤ 32767) (h1 : (l.length : Int) ≤ 3000) (h2 : (s.length : Int) ≤ 60) :
    Calls Try.prog 4 #[.slice A l.length c, .slice B s.length d] w fun e w' => e = .returned (.bool true) ∧ Below w.heap.size w w' := by
  obtain ⟨i0, hi0, hz0, hz1, hz2⟩ := info_parts u8info
  have HS := Lib.hid hs
  clear hs
  go_enter Try.func4, Try.ntmps4
  go_wp2_with ((with_reducible show wpList _ _ _ ((⟨some 24, _, _, _, _, _⟩ : Oper) :: _) _ _); refine wpList_app _ rfl _ _ _ rfl w.heap.size 5 i0 _ 1 Try.underlying25 hi0 hz0 hz1 hz2 rfl _ 0 0 [] rfl rfl (own_made w #[] _ (by simp) (Nat.le_refl _)) w.heap.size A c l.length (l.map u8v) rfl (by simp) (hA.below ((Below.refl _ _).alloc (Nat.le_refl _) _)) u8v_one (by simp [maxLen]; omega) (by simp; omega) (by simp) l.length (by simp) ?_; intro A1 c1 w1 ho1 hb1 hx1 hx2; clear hx1 hx2)
  have ho1' : Own w1 w.heap.size 5 A1 c1 (l.map u8v) := by simpa using ho1
  have HO := Lib.hid ho1'
  have HB1 := Lib.hid (show Below w.heap.size w w1 from ((Below.refl _ _).alloc (Nat.le_refl _) _).trans hb1)
  have HA1 := Lib.hid (hA.below (HB1.out))
  have es1 := str_far HA1.out HB1.out (drewB w1) c
  have esb := fun o => str_far HA1.out HB1.out (nextA (drewB w1) o) c
  clear ho1 ho1' hb1
  go_cut [6, 7] (fun s6 s7 wx => ∃ p q : Nat, s6 = .pointer (some ⟨p, 0, none⟩) ∧ s7 = .pointer (some ⟨q, 0, none⟩) ∧ Both w1 p q l 0 false wx)
  case first =>
    clear hA hB HS hi0 hz0 hz1 hz2
    have hlen : l.length ≤ 10000000 := Nat.le_trans (Int.ofNat_le.1 h1) (by decide)
    have HL := Lib.hid hlen
    clear hlen
    go_region_with (first
      | (go_at_call 14; refine (open_has _ A1 l _ c1 rfl HL.out (own_bytes_at HO.out (drewB w1))).mono ?_; (rintro e w2 ⟨p, rfl, hr, hb2⟩; have hb3 := next (drewB w1) hb2; have es2 := str_far HA1.out HB1.out hb3 c))
      | (go_at_call 14; refine (open_has _ A1 l _ c1 rfl HL.out (own_bytes_at HO.out (nextA (drewB w1) _))).mono ?_; (rintro e w2 ⟨p, rfl, hr, hb2⟩; have hb3 := next (nextA (drewB w1) _) hb2; have es2 := str_far HA1.out HB1.out hb3 c)))
    all_goals
      go_wp2_with fail
      go_meet
    all_goals first
      | exact ⟨_, _, rfl, rfl, box_last HL.out hr hb3⟩
      | exact ⟨_, _, rfl, rfl, box_first HL.out hr hb2⟩
  case rest =>
    obtain ⟨p, q, rfl, rfl, hbo⟩ := hcut
    have BO := Lib.hid (hbo.two HB1.out)
    have HOc := Lib.hid (HO.out.keep hbo.2.2.2.2)
    clear hbo es1 esb
    have HF := Lib.hid (show ∀ g, A1 = some ⟨g, 0, none⟩ → w.heap.size ≤ g ∧ g < w1.heap.size from fun g hg => by
      rcases HO.out.form with ⟨h1, _⟩ | ⟨g', h1, h2, h3, _⟩
      · rw [h1] at hg; cases hg
      · rw [h1] at hg; injection hg with hg; injection hg with hg; subst hg; exact ⟨h2, h3⟩)
    go_wp2_with fail
    go_loopw [8] (fun i wr => ∃ (j : Nat) (l1 : List UInt8), i = .int .i64 (j : Int) ∧ j ≤ l.length ∧ l1.length = l.length ∧ Own wr w.heap.size 5 A1 c1 (l1.map u8v) ∧ Two w w1 p q l 0 false wr) (fun i _ => l.length - (intOf i).toNat)
    case atStart => exact ⟨0, l, rfl, Nat.zero_le _, rfl, HOc.out, BO.out⟩
    case round =>
      obtain ⟨j, l1, rfl, hj, hl1, ho, hbo⟩ := hrel
      have HL1 := Lib.hid hl1
      have BO2 := Lib.hid hbo
      clear hbo BO HOc
      by_cases hjl : j < l.length
      · have hj1 : j < l1.length := by omega
        obtain ⟨g, off, rfl, hb, hcell⟩ := ho.bytes.at_ hj1
        have hfz : wr.frozen? ⟨g, off + j, none⟩ = false := by
          obtain ⟨g', hq, _, _, _, h4, _⟩ := ho.at_ (k := j) (by simpa using hj1)
          injection hq with hq; injection hq with hq1 hq2; subst hq1; subst hq2
          simpa using h4
        obtain rfl : off = 0 := by
          rcases ho.form with ⟨h1, _⟩ | ⟨g', h1, _⟩
          · cases h1
          · injection h1 with h1; exact congrArg Addr.off h1
        have h3 : (j : Int) < (l.length : Int) := by omega
        have h4 : (0 : Int) ≤ (j : Int) := by omega
        rw [Nat.zero_add] at hcell hfz
        clear hl1
        have HOj := Lib.hid ho
        clear ho
        generalize l1[j] = cj at *
        go_wp2_with fail
        go_roundw
        case rel =>
          obtain ⟨x, hx⟩ := xor8 (cj.toNat : Int) 85
          rw [hx]
          have hg := HF.out g rfl
          exact ⟨j + 1, l1.set j x, rfl, hjl, by simp [HL1.out], own_set HOj.out hj1 _ x rfl, BO2.out.set_ hg.1 hg.2 _⟩
        case measure => simp [intOf]; omega
      · obtain rfl : j = l.length := by omega
        clear ho hl1 HL1 HF HA1 HO
        go_wp2_with fail
        go_loopw [9] (fun i wr => ∃ (j k : Nat) (f : Bool), i = .int .i64 (j : Int) ∧ j ≤ s.length ∧ Two w w1 p q l k f wr) (fun i _ => s.length - (intOf i).toNat)
        case atStart => exact ⟨0, 0, false, rfl, Nat.zero_le _, BO2.out⟩
        case round =>
          clear BO2
          obtain ⟨j, k, f, rfl, hj, hT⟩ := hrel
          have TW := Lib.hid hT
          clear hT
          by_cases hjl : j < s.length
          · obtain ⟨b, off, rfl, hb, hcell⟩ := (hB.below TW.out.2.2.2.2.1).at_ (k := j) (by simpa using hjl)
            simp only [List.getElem_map, i16v] at hcell
            have hn := HS.out s[j] (List.getElem_mem hjl)
            generalize s[j] = n at *
            have hwn : IntKind.i64.wrap n = n := IntWalk.i64_in _ (by omega)
            have h3 : (j : Int) < (s.length : Int) := by omega
            have h4 : (0 : Int) ≤ (j : Int) := by omega
            have HN := Lib.hid hn
            clear hn
            clear hi0 hz0 hz1 hz2 i0 hA
            go_upto_region 13 with fail
            clear hwn
            go_cut [10, 69] (fun s10 s69 wx => ∃ bn : Bool, s10 = .int .i64 n ∧ s69 = .bool bn ∧ (bn = true ↔ n = 1 ∨ n = 2 ∨ n = 4 ∨ n = 8) ∧ Two w w1 p q l k f wx)
            case first =>
              have hc : n = 1 ∨ n = 2 ∨ n = 4 ∨ n = 8 ∨ (n ≠ 1 ∧ n ≠ 2 ∧ n ≠ 4 ∧ n ≠ 8) := by omega
              rcases hc with rfl | rfl | rfl | rfl | ⟨e1, e2, e4, e8⟩
              all_goals (go_wp2_with fail; go_meet)
              case rel => exact ⟨true, rfl, rfl, by simp, TW.out⟩
              case rel => exact ⟨true, rfl, rfl, by simp, TW.out⟩
              case rel => exact ⟨true, rfl, rfl, by simp, TW.out⟩
              case rel => exact ⟨true, rfl, rfl, by simp, TW.out⟩
              case rel => exact ⟨_, rfl, rfl, by simp [e1, e2, e4, e8], TW.out⟩
            case rest =>
              clear TW
              obtain ⟨bn, rfl, rfl, hbn, hT⟩ := hcut
              have TW := Lib.hid hT
              clear hT
              cases bn
              · clear hbn
                go_wp2_with fail
                refine (rraw_low n TW.out.2.2.1).mono ?_
                rintro e w5 ⟨A5, c5, rfl, ho5, hl5, hf5⟩
                have hq5 := TW.out.2.2.2.1.fr hf5 TW.out.1
                have H5 := Lib.hid (And.intro hl5 (And.intro hf5 (And.intro hq5 ho5)))
                have hqlt := TW.out.2.2.2.1.blk.lt
                have HQ := Lib.hid (show ∀ g, A5 = some ⟨g, 0, none⟩ → wc.heap.size ≤ g ∧ g < w5.heap.size ∧ ¬ g = q from fun g hg => by
                  rcases ho5.form with ⟨h1, _⟩ | ⟨g', h1, h2, h3, _⟩
                  · rw [h1] at hg; cases hg
                  · rw [h1] at hg; injection hg with hg; injection hg with hg; subst hg; exact ⟨h2, h3, by omega⟩)
                clear hl5 hf5 hq5 ho5 hqlt
                have hxl : ((got l k f n).length : Int) ≤ 32767 := by
                  have h5 := got_len l k f n
                  have h6 := HN.out
                  omega
                generalize hx : got l k f n = xs at *
                have HX := Lib.hid hx
                clear hx
                obtain ⟨ub, hub⟩ : ∃ u, u = wc.heap.size := ⟨_, rfl⟩
                have HU := Lib.hid hub
                clear hub
                have es5 := run_str (P := Try.prog) w5.drew 25 5 Try.underlying25 Try.underlying5 (show Bytes w5.drew _ A5 xs from H5.out.2.2.2.bytes) c5 9 Try.underlying9
                go_wp2_with fail
                go_cut [85] (fun s85 wx => s85 = .bool false ∧ TwoLow w w1 p q l (goes l k f n) (bad l k f n) ub wx ∧ Own wx ub 5 A5 c5 (xs.map u8v))
                case first =>
                  have hnn := HN.out
                  go_region_with (go_at_call 18; refine (refCut_any w5.drew q l k f n (H5.out.2.2.1.keep (drewB w5)) HN.out.1 HN.out.2).mono ?_; (rintro e w6 ⟨rfl, hr6, hf6⟩; rw [HX.out]; have ho6 := (H5.out.2.2.2.keep (drewB w5)).fr hf6 (fun g hg => (HQ.out g hg).2.2); have es6 := run_str (P := Try.prog) w6 25 5 Try.underlying25 Try.underlying5 ho6.bytes c5 9 Try.underlying9))
                  all_goals (go_wp2_with fail; go_meet)
                  all_goals exact ⟨rfl, HU.out ▸ TW.out.raw H5.out.1 H5.out.2.1 rfl hr6 hf6 (H5.out.2.2.1.keep (drewB w5)), HU.out ▸ ho6⟩
                case rest =>
                  clear es5
                  obtain ⟨rfl, ht6, ho6⟩ := hcut
                  have HT := Lib.hid (And.intro ht6 ho6)
                  clear ht6 ho6 H5 HQ HX HU TW
                  generalize goes l k f n = k2 at *
                  generalize bad l k f n = f2 at *
                  go_wp2_with fail
                  go_loopw [12] (fun i wr => ∃ (m : Nat) (l5 : List UInt8), i = .int .i64 (m : Int) ∧ m ≤ xs.length ∧ l5.length = xs.length ∧ Own wr ub 5 A5 c5 (l5.map u8v) ∧ TwoLow w w1 p q l k2 f2 ub wr) (fun i _ => xs.length - (intOf i).toNat)
                  case atStart => exact ⟨0, xs, rfl, Nat.zero_le _, rfl, HT.out.2, HT.out.1⟩
                  case round =>
                    clear HT
                    obtain ⟨m, l5, rfl, hm, hl5, ho, hbo⟩ := hrel
                    have HL5 := Lib.hid hl5
                    have BO5 := Lib.hid hbo
                    clear hbo
                    by_cases hml : m < xs.length
                    · have hm1 : m < l5.length := by omega
                      obtain ⟨g, off, rfl, hb, hcell⟩ := ho.bytes.at_ hm1
                      have hfz : wr.frozen? ⟨g, off + m, none⟩ = false := by
                        obtain ⟨g', hq, _, _, _, h4, _⟩ := ho.at_ (k := m) (by simpa using hm1)
                        injection hq with hq; injection hq with hq1 hq2; subst hq1; subst hq2
                        simpa using h4
                      obtain ⟨rfl, hug⟩ : off = 0 ∧ ub ≤ g := by
                        rcases ho.form with ⟨h1, _⟩ | ⟨g', h1, h2, _⟩
                        · cases h1
                        · injection h1 with h1
                          refine ⟨congrArg Addr.off h1, ?_⟩
                          have := congrArg Addr.block h1
                          simp at this
                          omega
                      have h3 : (m : Int) < (xs.length : Int) := by omega
                      have h4 : (0 : Int) ≤ (m : Int) := by omega
                      rw [Nat.zero_add] at hcell hfz
                      clear hl5
                      have HOj := Lib.hid (And.intro ho hug)
                      clear ho hug
                      generalize l5[m] = cj at *
                      go_wp2_with fail
                      go_roundw
                      case rel =>
                        obtain ⟨x, hx⟩ := xor8 (cj.toNat : Int) 255
                        rw [hx]
                        exact ⟨m + 1, l5.set m x, rfl, hml, by simp [HL5.out], own_set HOj.out.1 hm1 _ x rfl, BO5.out.set_ HOj.out.2 _⟩
                      case measure => simp [intOf]; omega
                    · obtain rfl : m = xs.length := by omega
                      clear ho hl5 HL5
                      have T6 := Lib.hid BO5.out.1
                      clear BO5
                      have hc2 := T6.out.2.2.2.1.blk.cell 2
                      simp at hc2
                      go_wp2_with fail
                      go_quiet (first
                        | (go_at_call 19; exact Calls.quiet_of (left_q (T6.out.drewN _).2.2.1))
                        | (go_at_call 20; exact Calls.quiet_of (refLeft_q _ _ _ _ _ (T6.out.drewN _).2.2.2.1))
                        | (go_at_call 21; exact Calls.quiet_of (bad_q (T6.out.drewN _).2.2.1)))
                      go_wp2_with fail
                      go_roundw
                      case rel => exact ⟨j + 1, _, _, rfl, hjl, T6.out.drewN _⟩
                      case measure => simp [intOf]; omega
              · have hbn' := Lib.hid (hbn.1 rfl)
                clear hbn
                go_wp2_with fail
                refine (get_has TW.out.2.2.1 n hbn'.out).mono ?_
                rintro e w5 ⟨rfl, hr5, hf5⟩
                have hq5 := TW.out.2.2.2.1.fr hf5 TW.out.1
                have H5 := Lib.hid (And.intro hr5 (And.intro hf5 hq5))
                clear hr5 hf5 hq5
                generalize hx : num (got l k f n) = x
                have HX := Lib.hid hx
                clear hx
                go_wp2_with fail
                have hn0 : 0 ≤ n ∧ n ≤ 8 := by have := hbn'.out; omega
                refine (refField_any w5 q l k f n H5.out.2.2 hn0.1 hn0.2).mono ?_
                rintro e w6 ⟨rfl, hr6, hf6⟩
                rw [HX.out]
                have T6 := Lib.hid (TW.out.step H5.out.1 H5.out.2.1 hr6 hf6 H5.out.2.2)
                clear hr6 hf6 H5 TW hn0
                generalize goes l k f n = k2 at *
                generalize bad l k f n = f2 at *
                have hc2 := T6.out.2.2.2.1.blk.cell 2
                simp at hc2
                go_wp2_with fail
                go_quiet (first
                  | (go_at_call 19; exact Calls.quiet_of (left_q (T6.out.drewN _).2.2.1))
                  | (go_at_call 20; exact Calls.quiet_of (refLeft_q _ _ _ _ _ (T6.out.drewN _).2.2.2.1))
                  | (go_at_call 21; exact Calls.quiet_of (bad_q (T6.out.drewN _).2.2.1)))
                go_wp2_with fail
                go_roundw
                case rel => exact ⟨j + 1, _, _, rfl, hjl, T6.out.drewN _⟩
                case measure => simp [intOf]; omega
          · obtain rfl : j = s.length := by omega
            clear hB HS
            go_wp2_with fail
            refine (works_any _).mono ?_
            rintro e w24 ⟨rfl, hb⟩
            have B24 := Lib.hid (next TW.out.2.2.2.2.1 hb)
            clear hb TW
            go_wp2_with fail
            go_ret
            exact ⟨rfl, B24.out⟩
/-- The law of reading. -/
theorem getLaw_any (w : World) (A : Option Addr) (l : List UInt8) (c : Nat) (hle : l.length ≤ c) (hmx : c ≤ maxLen) (hA : Bytes w w.heap.size A l) (B : Option Addr) (s : List Int) (d : Nat) (hle2 : s.length ≤ d) (hmx2 : d ≤ maxLen) (hB : Cells w w.heap.size B (s.map i16v)) (hs : ∀ n ∈ s, -32768 ≤ n ∧ n ≤ 32767) :
    Calls Try.prog 4 #[.slice A l.length c, .slice B s.length d] w fun e w' => e = .returned (.bool true) ∧ Below w.heap.size w w' := by
  simp only [maxLen] at hmx hmx2
  by_cases h : 3000 < l.length ∨ 60 < s.length
  · exact get_far w A l c B s d (by omega) (by omega) h
  · exact get_near w A l c hA B s d hB hs (by omega) (by omega)
end Go.Proofs.Ytbinffclijjhlaa.FdW
