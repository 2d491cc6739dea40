/- share.Put: the bytes of a share. -/
import Derived.Test.YtlmcmcafbepjmaaShMay
namespace Go.Proofs.Ytlmcmcafbepjmaa.ShW
open Go.RowKit Go.Shelf Mem Fds Bv
open FdW (Stg Has HasR byte_stg raw_stg long_stg word_stg out_has NewOk)
set_option linter.unusedVariables false

theorem put_len (s : Sh) : s.put.length = 18 + s.key.length + s.row.length := by
  unfold Sh.put Sh.body
  simp only [List.length_append, be_len]; omega
theorem body_len (s : Sh) : s.body.length = 14 + s.key.length + s.row.length := by
  unfold Sh.body
  simp only [List.length_append, be_len]; omega
/-- What Put leaves. -/
def PutS (w : World) (s : Sh) (e : Ending) (w' : World) : Prop :=
  (s.may = true → ∃ A c, e = .returned (.tuple #[.slice A s.put.length c, .int .i64 0]) ∧ Mem.Own w' w.heap.size 5 A c (s.put.map u8v)) ∧ (s.may = false → e = .returned (.tuple #[.slice none 0 0, .int .i64 2])) ∧ Below w.heap.size w w'
theorem sum_c (w : World) (M : Nat) (A : Option Addr) (l : List UInt8) (n c : Nat) (hn : l.length = n) (hm : n ≤ 256 ^ 3) (hA : Bytes w M A l) (hM : M ≤ w.heap.size) :
    Calls Try.prog 27 #[.slice A n c] w fun e w' => e = .returned (.int .u32 ((Crc.sum l).toNat : Int)) ∧ Below w.heap.size w w' := by
  subst hn
  exact CrcW.sum_any A l c w (by unfold maxLen; omega) (hA.up hM)
theorem cellF {S : Nat → Prop} {w w' : World} {a : Addr} {v : Value} (hf : Fr S w w') (h : w.cell? a = some v) (hS : ¬ S a.block) : w'.cell? a = some v := (World.cell?_of_block (hf.block a.block (World.block_lt_of_cell? _ _ h) hS)).trans h
set_option maxRecDepth 100000 in
set_option maxHeartbeats 8000000 in
theorem put_any (w : World) (s : Sh) (hvb : s.ver ≤ 9223372036854775807) (A B : Option Addr) (n c m d : Nat) (hn : s.key.length = n) (hm : s.row.length = m) (hA : Bytes w w.heap.size A s.key) (hB : Bytes w w.heap.size B s.row) :
    Calls Try.prog 10 #[.agg #[.slice A n c, .int .i64 s.ver, .int .i64 s.node, .slice B m d]] w (PutS w s) := by
  obtain ⟨w1, hw1⟩ : ∃ w1 : World, w1 = w.alloc (.cells #[.slice A n c, .int .i64 s.ver, .int .i64 s.node, .slice B m d] 24) := ⟨_, rfl⟩
  have hbk : Blk w1 w.heap.size 24 #[.slice A n c, .int .i64 s.ver, .int .i64 s.node, .slice B m d] := by rw [hw1]; exact Blk.new w _ _
  have hb1 : Below w.heap.size w w1 := by rw [hw1]; exact nextA (Mem.start w) _
  have HM := Lib.hid (may_any w1 s A B n c m d hn hm)
  have HBK := Lib.hid hbk
  have HB1 := Lib.hid hb1
  have HK := Lib.hid (And.intro hA hB)
  rcases hmay : s.may with _ | _
  · rw [hmay] at HM
    have HMY := Lib.hid hmay
    rw [hw1] at HM HB1
    obtain ⟨ver, hver⟩ : ∃ ver, s.ver = ver := ⟨_, rfl⟩
    obtain ⟨node, hnode⟩ : ∃ node, s.node = node := ⟨_, rfl⟩
    rw [hver, hnode] at HM HB1 ⊢
    clear hw1 hbk hb1 hA hB hver hnode hn hm hmay HBK
    go_enter Try.func10, Try.ntmps10
    go_wp2_with fail
    refine HM.out.mono ?_
    rintro e w2 ⟨rfl, hb⟩
    have H2 := Lib.hid (next HB1.out hb)
    clear hb
    go_wp2_with fail
    go_ret2
    exact ⟨fun h => (by rw [HMY.out] at h; cases h), fun _ => rfl, H2.out⟩
  · rw [hmay] at HM
    have HMY := Lib.hid hmay
    have hp := of_decide_eq_true (show decide (_ ∧ _) = true from hmay)
    obtain ⟨v, hv⟩ : ∃ v : Nat, s.ver = (v : Int) := ⟨s.ver.toNat, by omega⟩
    obtain ⟨nd, hnd⟩ : ∃ nd : Nat, s.node = (nd : Int) := ⟨s.node.toNat, by omega⟩
    have hv1 : (0 : Int) ≤ (v : Int) := by omega
    have hnd1 : (nd : Int) < 255 := by omega
    have hn64 : (n : Int) ≤ 64 := by omega
    have hm3 : (m : Int) ≤ 256 ^ 3 := by omega
    have HV := Lib.hid (And.intro hv (And.intro hnd (And.intro hn hm)))
    have HM6 := Lib.hid (show m ≤ 65536 from by omega)
    have HVB := Lib.hid (show (v : Int) ≤ 9223372036854775807 from by rw [← hv]; exact hvb)
    rw [hv, hnd] at HBK HM
    rw [hv, hnd] at hw1
    rw [hv, hnd]
    have HW1 := Lib.hid hw1.symm
    clear hbk hb1 hA hB hmay hp hvb
    obtain ⟨bx, hbx⟩ : ∃ bx, w.heap.size = bx := ⟨_, rfl⟩
    have hws : w1.heap.size = bx + 1 := by rw [hw1, World.size_alloc, hbx]
    have HBX := Lib.hid (And.intro hbx hws)
    rw [hw1] at HM
    have hwn : IntKind.u8.wrap (n : Int) = (n : Int) := IntWalk.u8_in _ (by omega)
    have hwd : IntKind.u8.wrap (nd : Int) = (nd : Int) := IntWalk.u8_in _ (by omega)
    have hwm : IntKind.u32.wrap (m : Int) = (m : Int) := by show (m : Int) % 4294967296 = m; omega
    have hv64 : (v : Int) ≤ 9223372036854775807 := HVB.out
    have hwv : IntKind.u64.wrap (v : Int) = (v : Int) := by show (v : Int) % 18446744073709551616 = v; omega
    have HN := Lib.hid (And.intro hn64 (And.intro hm3 (And.intro hnd1 hv64)))
    clear hws hv64 hm3 hw1
    go_enter Try.func10, Try.ntmps10
    go_wp2_with fail
    refine HM.out.mono ?_
    rintro e w2 ⟨rfl, hb⟩
    rw [HW1.out] at hb
    have H2 := Lib.hid (And.intro (next HB1.out hb) (HBK.out.keep hb))
    have hc0 : w2.cell? ⟨bx, 0, none⟩ = some (.slice A n c) := by rw [← hbx]; exact H2.out.2.cell 0
    clear hb
    obtain ⟨w3, hw3⟩ : ∃ w3 : World, w3 = w2.alloc (.cells #[.slice none 0 0] 50) := ⟨_, rfl⟩
    have h23 : Below w2.heap.size w2 w3 := by rw [hw3]; exact nextA (Mem.start w2) _
    have hst : Stg bx w3 w2.heap.size [] w3 := Stg.start (by rw [hw3]; exact Blk.new w2 _ _) (by rw [← hbx]; exact H2.out.1.size)
    have HNE := Lib.hid (show ¬ (bx = w2.heap.size) from fun e => by have h1 := H2.out.2.lt; omega)
    have BK3 := Lib.hid (show Blk w3 bx 24 #[.slice A n c, .int .i64 (v : Int), .int .i64 (nd : Int), .slice B m d] from by rw [← hbx]; exact H2.out.2.keep h23)
    have HB3 := Lib.hid (next H2.out.1 h23)
    have K3 := Lib.hid hst
    have hc3 : (w2.alloc (.cells #[.slice none 0 0] 50)).cell? ⟨bx, 0, none⟩ = some (.slice A n c) := by rw [← hw3]; exact BK3.out.cell 0
    have HW3 := Lib.hid hw3
    obtain ⟨p, hp⟩ : ∃ p, w2.heap.size = p := ⟨_, rfl⟩
    have HP := Lib.hid (show bx ≤ p from by rw [← hp, ← hbx]; exact H2.out.1.size)
    rw [hp] at K3 HNE
    clear h23 hst hc0 hw3
    go_wp2_with fail
    rw [← HW3.out]
    refine (byte_stg K3.out (by decide) _ n rfl (by omega)).mono ?_
    rintro e w4 ⟨rfl, h⟩
    have hc4 : w4.cell? ⟨bx, 0, none⟩ = some (.slice A n c) := cellF h.fr (BK3.out.cell 0) HNE.out
    have K4 := Lib.hid h
    clear h hc3
    go_wp2_with fail
    refine (raw_stg K4.out (by simp [be_len]) A s.key n c (by rw [HV.out.2.2.1]) (by omega) (((HK.out.1.below HB3.out).fr (S := fun k => k = p) HB3.out.size K4.out.fr (fun q hq e => by have h1 := HP.out; have h2 := HBX.out.1; omega)).up (Nat.le_trans HB3.out.size K4.out.fr.size))).mono ?_
    rintro e w5 ⟨rfl, h⟩
    have hc5 : w5.cell? ⟨bx, 1, none⟩ = some (.int .i64 (v : Int)) := cellF h.fr (BK3.out.cell 1) HNE.out
    have K5 := Lib.hid h
    clear h hc4
    go_wp2_with fail
    refine (long_stg K5.out (by simp [be_len]; omega) _ v rfl (by have h1 := HN.out.2.2.2; omega)).mono ?_
    rintro e w6 ⟨rfl, h⟩
    have hc6 : w6.cell? ⟨bx, 2, none⟩ = some (.int .i64 (nd : Int)) := cellF h.fr (BK3.out.cell 2) HNE.out
    have K6 := Lib.hid h
    clear h hc5
    go_wp2_with fail
    refine (byte_stg K6.out (by simp [be_len]; omega) _ nd rfl (by omega)).mono ?_
    rintro e w7 ⟨rfl, h⟩
    have hc7 : w7.cell? ⟨bx, 3, none⟩ = some (.slice B m d) := cellF h.fr (BK3.out.cell 3) HNE.out
    have K7 := Lib.hid h
    clear h hc6
    go_wp2_with fail
    refine (word_stg K7.out (by simp [be_len]; omega) _ m rfl (by have h1 := HM6.out; omega)).mono ?_
    rintro e w8 ⟨rfl, h⟩
    have hc8 : w8.cell? ⟨bx, 3, none⟩ = some (.slice B m d) := cellF h.fr (BK3.out.cell 3) HNE.out
    have K8 := Lib.hid h
    clear h hc7
    go_wp2_with fail
    refine (raw_stg K8.out (by simp [be_len]; omega) B s.row m d (by rw [HV.out.2.2.2]) (by have h1 := HM6.out; omega) (((HK.out.2.below HB3.out).fr (S := fun k => k = p) HB3.out.size K8.out.fr (fun q hq e => by have h1 := HP.out; have h2 := HBX.out.1; omega)).up (Nat.le_trans HB3.out.size K8.out.fr.size))).mono ?_
    rintro e w9 ⟨rfl, h⟩
    have K9 := Lib.hid h
    clear h hc8
    go_wp2_with fail
    have hbody : [] ++ be 1 n ++ s.key ++ be 8 v ++ be 1 nd ++ be 4 m ++ s.row = s.body := by
      unfold Sh.body
      rw [HV.out.1, HV.out.2.1, HV.out.2.2.1, HV.out.2.2.2, Int.toNat_natCast, Int.toNat_natCast, List.nil_append]
    rw [hbody] at K9
    have HBL := Lib.hid (body_len s)
    have HBM := Lib.hid (show s.body.length ≤ 1000000 from by rw [HBL.out, HV.out.2.2.1, HV.out.2.2.2]; have h1 := HM6.out; omega)
    obtain ⟨bl, hbl⟩ : ∃ bl, s.body.length = bl := ⟨_, rfl⟩
    have HBE := Lib.hid hbl
    clear hbody hbl
    refine (out_has K9.out.has (by have h1 := HBM.out; omega)).mono ?_
    rintro e w10 ⟨A1, c1, rfl, ho, hb⟩
    rw [HBE.out]
    have K10 := Lib.hid (And.intro (K9.out.keep hb) ho)
    clear ho hb
    go_wp2_with fail
    refine (sum_c w10 w10.heap.size A1 s.body bl c1 HBE.out (by have h1 := HBM.out; have h2 := HBE.out; omega) K10.out.2.bytes (Nat.le_refl _)).mono ?_
    rintro e w11 ⟨rfl, hb⟩
    have K11 := Lib.hid (K10.out.1.keep hb)
    obtain ⟨sm, hsm⟩ : ∃ sm, (Crc.sum s.body).toNat = sm := ⟨_, rfl⟩
    have HSM := Lib.hid (And.intro hsm (show sm < 256 ^ 4 from by rw [← hsm]; exact (Crc.sum s.body).isLt))
    rw [hsm]
    clear hb hsm
    go_wp2_with fail
    refine (word_stg K11.out HBM.out _ sm rfl HSM.out.2).mono ?_
    rintro e w12 ⟨rfl, h⟩
    have hput : s.body ++ be 4 sm = s.put := by unfold Sh.put; rw [HSM.out.1]
    rw [hput] at h
    have K12 := Lib.hid h
    have HPL := Lib.hid (show s.put.length ≤ 1000004 from by rw [← hput, List.length_append, be_len]; have h1 := HBM.out; omega)
    obtain ⟨pl, hpl⟩ : ∃ pl, s.put.length = pl := ⟨_, rfl⟩
    have HPE := Lib.hid hpl
    clear h hput hpl
    go_wp2_with fail
    refine (out_has K12.out.has (by have h1 := HPL.out; omega)).mono ?_
    rintro e w13 ⟨A2, c2, rfl, ho, hb⟩
    rw [HPE.out]
    have K13 := Lib.hid (And.intro (K12.out.keep hb) ho)
    clear ho hb
    go_wp2_with fail
    go_ret2
    have hsz : w.heap.size ≤ w12.heap.size := Nat.le_trans HB3.out.size K12.out.fr.size
    refine ⟨fun _ => ⟨A2, c2, by rw [HPE.out]; rfl, K13.out.2.down hsz⟩, fun h => (by rw [HMY.out] at h; cases h), HB3.out.trans (K13.out.1.fr.below HB3.out.size fun q hq => by have h1 := HP.out; have h2 := HBX.out.1; omega)⟩
end Go.Proofs.Ytlmcmcafbepjmaa.ShW
