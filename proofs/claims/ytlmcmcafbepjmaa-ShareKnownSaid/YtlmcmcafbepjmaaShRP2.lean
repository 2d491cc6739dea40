/- The document's Put of a share. -/
import Derived.Test.YtlmcmcafbepjmaaShRPut
namespace Go.Proofs.Ytlmcmcafbepjmaa.ShW
open Go.RowKit Go.Shelf Mem Fds Bv
open FdW (Stg Has HasR byte_stg raw_stg long_stg word_stg out_has NewOk)
set_option linter.unusedVariables false

theorem shift_bytes (w : World) (v k e : Nat) (he : 8 * k = e) : Bytes (w.alloc (.cells #[.int .u8 ((v : Int) / 2 ^ e % 256)] 5)) (w.heap.size + 1) (some ⟨w.heap.size, 0, none⟩) [UInt8.ofNat (v / 256 ^ k)] := by
  refine Bytes.new w [UInt8.ofNat (v / 256 ^ k)] 5 (0, 0) _ ?_ _ (Nat.lt_succ_self _)
  subst he
  have h1 : (2 : Nat) ^ (8 * k) = 256 ^ k := by rw [Nat.pow_mul]
  have h2 : ((UInt8.ofNat (v / 256 ^ k)).toNat : Int) = (v : Int) / 2 ^ (8 * k) % 256 := by
    rw [UInt8.toNat_ofNat', ← h1, Int.natCast_emod, Int.natCast_ediv, Int.natCast_pow]
    rfl
  show [Value.int .u8 _] = [Value.int .u8 _]
  rw [h2]
theorem five_bytes (nd m : Nat) (hd : nd < 256) (hm : m < 256 ^ 4) : [Value.int .u8 (nd : Int), .int .u8 ((m : Int) / 16777216), .int .u8 ((m : Int) / 65536 % 256), .int .u8 ((m : Int) / 256 % 256), .int .u8 ((m : Int) % 256)] = (be 1 nd ++ be 4 m).map u8v := by
  have e1 : be 1 nd = [UInt8.ofNat nd] := by unfold be be; simp
  have e4 : be 4 m = [UInt8.ofNat (m / 256 / 256 / 256), UInt8.ofNat (m / 256 / 256), UInt8.ofNat (m / 256), UInt8.ofNat m] := by
    rw [be_snoc, be_snoc, be_snoc, be_snoc]; rfl
  rw [e1, e4]
  simp only [List.map_cons, List.map_nil, u8v, UInt8.toNat_ofNat', List.cons_append, List.nil_append]
  have h0 : nd % 2 ^ 8 = nd := Nat.mod_eq_of_lt hd
  have h1 : ((m / 256 / 256 / 256 % 2 ^ 8 : Nat) : Int) = (m : Int) / 16777216 := by omega
  have h2 : ((m / 256 / 256 % 2 ^ 8 : Nat) : Int) = (m : Int) / 65536 % 256 := by omega
  have h3 : ((m / 256 % 2 ^ 8 : Nat) : Int) = (m : Int) / 256 % 256 := by omega
  have h4 : ((m % 2 ^ 8 : Nat) : Int) = (m : Int) % 256 := by omega
  rw [h0, h1, h2, h3, h4]
theorem four_bytes (m : Nat) (hm : m < 256 ^ 4) : [Value.int .u8 ((m : Int) / 16777216 % 256), .int .u8 ((m : Int) / 65536 % 256), .int .u8 ((m : Int) / 256 % 256), .int .u8 ((m : Int) % 256)] = (be 4 m).map u8v := by
  have h := five_bytes 0 m (by decide) hm
  rw [show be 1 0 = [0] from rfl] at h
  have h2 := congrArg List.tail h
  rw [show (m : Int) / 16777216 % 256 = (m : Int) / 16777216 from by omega]
  exact h2
theorem rsum_c (w : World) (M : Nat) (A : Option Addr) (l : List UInt8) (n c : Nat) (hn : l.length = n) (hm : n ≤ 256 ^ 3) (hA : Bytes w M A l) (hM : M ≤ w.heap.size) :
    Calls Try.prog 29 #[.slice A n c] w fun e w' => e = .returned (.int .u32 ((Crc.sum l).toNat : Int)) ∧ w = w' := by
  subst hn
  have := CrcW.refSum_any A l c w (by unfold maxLen; omega) (hA.up hM)
  rw [Crc.refSum_eq] at this
  exact this
theorem own_congr {w : World} {base c : Nat} {T : TypeId} {A : Option Addr} {l r : List UInt8} (h : Mem.Own w base T A c (l.map u8v)) (e : l = r) : Mem.Own w base T A c (r.map u8v) := e ▸ h
/-- While the version's bytes are laid. -/
def Own3 (w : World) (s : Sh) (n : Nat) (A : Option Addr) (c v nd : Nat) (B : Option Addr) (m d j : Nat) (A' : Option Addr) (c' : Nat) (wr : World) : Prop :=
  Mem.Own wr w.heap.size 5 A' c' ((be 1 n ++ s.key ++ be j (v / 256 ^ (8 - j))).map u8v) ∧ Blk wr w.heap.size 31 #[.slice A n c, .int .i64 (v : Int), .int .i64 (nd : Int), .slice B m d] ∧ Below w.heap.size w wr
set_option maxRecDepth 100000 in
set_option maxHeartbeats 8000000 in
theorem rput_any (w : World) (s : Sh) (hvb : s.ver ≤ 9223372036854775807) (A B : Option Addr) (n c m d : Nat) (hn : s.key.length = n) (hm : s.row.length = m) (hA : Bytes w w.heap.size A s.key) (hB : Bytes w w.heap.size B s.row) :
    Calls Try.prog 11 #[.agg #[.slice A n c, .int .i64 s.ver, .int .i64 s.node, .slice B m d]] w (PutS w s) := by
  obtain ⟨w1, hw1⟩ : ∃ w1 : World, w1 = w.alloc (.cells #[.slice A n c, .int .i64 s.ver, .int .i64 s.node, .slice B m d] 31) := ⟨_, rfl⟩
  have hbk : Blk w1 w.heap.size 31 #[.slice A n c, .int .i64 s.ver, .int .i64 s.node, .slice B m d] := by rw [hw1]; exact Blk.new w _ _
  have hb1 : Below w.heap.size w w1 := by rw [hw1]; exact nextA (Mem.start w) _
  have HM := Lib.hid (rmay_any w1 s A B n c m d hn hm)
  have HBK := Lib.hid hbk
  have HB1 := Lib.hid hb1
  have HK := Lib.hid (And.intro hA hB)
  rcases hmay : s.may with _ | _
  · rw [hmay] at HM
    have HMY := Lib.hid hmay
    rw [hw1] at HM HB1
    obtain ⟨ver, hver⟩ : ∃ ver, s.ver = ver := ⟨_, rfl⟩
    obtain ⟨node, hnode⟩ : ∃ node, s.node = node := ⟨_, rfl⟩
    rw [hver, hnode] at HM HB1 ⊢
    clear hw1 hbk hb1 hA hB hver hnode hn hm hmay HBK hvb
    go_enter Try.func11, Try.ntmps11
    go_wp2_with fail
    refine HM.out.mono ?_
    rintro e w2 ⟨rfl, hb⟩
    have H2 := Lib.hid (next HB1.out hb)
    clear hb
    go_wp2_with fail
    go_ret2
    exact ⟨fun h => (by rw [HMY.out] at h; cases h), fun _ => rfl, H2.out⟩
  · rw [hmay] at HM
    have HMY := Lib.hid hmay
    have hp := of_decide_eq_true (show decide (_ ∧ _) = true from hmay)
    obtain ⟨v, hv⟩ : ∃ v : Nat, s.ver = (v : Int) := ⟨s.ver.toNat, by omega⟩
    obtain ⟨nd, hnd⟩ : ∃ nd : Nat, s.node = (nd : Int) := ⟨s.node.toNat, by omega⟩
    have hv1 : (0 : Int) ≤ (v : Int) := by omega
    have hnd1 : (nd : Int) < 255 := by omega
    have hn64 : (n : Int) ≤ 64 := by omega
    have hm3 : (m : Int) ≤ 256 ^ 3 := by omega
    have HV := Lib.hid (And.intro hv (And.intro hnd (And.intro hn hm)))
    have HM6 := Lib.hid (show m ≤ 65536 from by omega)
    have HVB := Lib.hid (show (v : Int) ≤ 9223372036854775807 from by rw [← hv]; exact hvb)
    rw [hv, hnd] at HBK HM
    rw [hv, hnd] at hw1
    rw [hv, hnd]
    have HW1 := Lib.hid hw1.symm
    rw [hw1] at HM
    have hwn : IntKind.u8.wrap (n : Int) = (n : Int) := IntWalk.u8_in _ (by omega)
    have hwd : IntKind.u8.wrap (nd : Int) = (nd : Int) := IntWalk.u8_in _ (by omega)
    clear hbk hb1 hA hB hmay hp hvb hw1
    go_enter Try.func11, Try.ntmps11
    go_wp2_with fail
    refine HM.out.mono ?_
    rintro e w2 ⟨rfl, hb⟩
    rw [HW1.out] at hb
    have H2 := Lib.hid (And.intro (next HB1.out hb) (HBK.out.keep hb))
    have hc0 : w2.cell? ⟨w.heap.size, 0, none⟩ = some (.slice A n c) := H2.out.2.cell 0
    have hc0' : (w2.alloc (.cells #[.int .u8 (n : Int)] 5)).cell? ⟨w.heap.size, 0, none⟩ = some (.slice A n c) := (H2.out.2.alloc _).cell 0
    have HO := Lib.hid (show Mem.Own (w2.alloc (.cells #[.int .u8 (n : Int)] 5)) w.heap.size 5 (some ⟨w2.heap.size, 0, none⟩) 1 ((be 1 n).map u8v) from by
      have h := own_made w2 #[.int .u8 (n : Int)] 5 (by simp [maxLen]) H2.out.1.size
      rw [show (be 1 n).map u8v = [.int .u8 (n : Int)] from by
        unfold be be
        simp [u8v]
        omega]
      exact h)
    have HA := Lib.hid (((HK.out.1.below H2.out.1).below (B := w.heap.size) ((nextA (Mem.start w2) (.cells #[.int .u8 (n : Int)] 5)).mono H2.out.1.size)))
    have HSZ := Lib.hid (show w.heap.size ≤ (w2.alloc (.cells #[.int .u8 (n : Int)] 5)).heap.size from by rw [World.size_alloc]; have := H2.out.1.size; omega)
    clear hb
    go_wp2_with ((with_reducible show wpList _ _ _ ((⟨some 19, _, _, _, _, _⟩ : Oper) :: _) _ _); refine wpList_appB _ rfl _ _ rfl w.heap.size HSZ.out _ 1 1 (be 1 n) rfl (be_len 1 n) HO.out w.heap.size A n c s.key rfl HV.out.2.2.1 HA.out (by omega) (1 + n) rfl ?_; intro A3 c3 w3 ho hb hg; have K3 := Lib.hid (And.intro ho (And.intro hb hg)); clear ho hb hg)
    have h3 : Own3 w s n A c v nd B m d 0 A3 c3 w3 := ⟨own_congr K3.out.1 (by rw [show be 0 (v / 256 ^ (8 - 0)) = [] from rfl, List.append_nil]), Blk.app (H2.out.2.alloc _) HO.out (by decide) K3.out.2.2, (nextA H2.out.1 _).trans K3.out.2.1⟩
    have H3 := Lib.hid h3
    clear h3 hc0 hc0'
    go_loopw [4, 5] (fun b i wr => ∃ (j : Nat) (A' : Option Addr) (c' : Nat), i = .int .i64 (7 - (j : Int)) ∧ b = .slice A' (1 + n + j) c' ∧ j ≤ 8 ∧ Own3 w s n A c v nd B m d j A' c' wr) (fun _ i _ => (intOf i + 1).toNat)
    case atStart => exact ⟨0, A3, c3, rfl, rfl, by decide, H3.out⟩
    case round =>
      obtain ⟨j, A4, c4, rfl, rfl, hj, h⟩ := hrel
      have H4 := Lib.hid h
      clear h H3
      obtain ⟨w4, rfl⟩ : ∃ w4 : World, w4 = wr := ⟨_, rfl⟩
      have hc1 : w4.cell? ⟨w.heap.size, 1, none⟩ = some (.int .i64 (v : Int)) := H4.out.2.1.cell 1
      by_cases hj8 : j < 8
      · have hk1 : (0 : Int) ≤ 7 - (j : Int) := by omega
        have hk2 : (7 : Int) - (j : Int) ≤ 7 := by omega
        have HBY := Lib.hid (shift_bytes w4 v (7 - j) (8 * (7 - j)) rfl)
        have HO4 := Lib.hid (show Mem.Own (w4.alloc (.cells #[.int .u8 ((v : Int) / 2 ^ (8 * (7 - j)) % 256)] 5)) w.heap.size 5 A4 c4 ((be 1 n ++ s.key ++ be j (v / 256 ^ (8 - j))).map u8v) from H4.out.1.alloc _)
        have HSZ4 := Lib.hid (show w.heap.size ≤ (w4.alloc (.cells #[.int .u8 ((v : Int) / 2 ^ (8 * (7 - j)) % 256)] 5)).heap.size from by rw [World.size_alloc]; have := H4.out.2.2.size; omega)
        have HLN := Lib.hid (show (be 1 n ++ s.key ++ be j (v / 256 ^ (8 - j))).length = 1 + n + j from by rw [List.length_append, List.length_append, be_len, be_len, HV.out.2.2.1])
        have HSN := Lib.hid (show be 1 n ++ s.key ++ be j (v / 256 ^ (8 - j)) ++ [UInt8.ofNat (v / 256 ^ (7 - j))] = be 1 n ++ s.key ++ be (j + 1) (v / 256 ^ (8 - (j + 1))) from by
          rw [List.append_assoc (be 1 n ++ s.key), show 8 - (j + 1) = 7 - j from by omega, be_snoc j (v / 256 ^ (7 - j)), Nat.div_div_eq_div_mul, show 256 ^ (7 - j) * 256 = 256 ^ (8 - j) from by rw [show 8 - j = (7 - j) + 1 from by omega, Nat.pow_succ]])
        go_wp2_with ((with_reducible show wpList _ _ _ ((⟨some 32, _, _, _, _, _⟩ : Oper) :: _) _ _); refine wpList_appB _ rfl _ _ rfl w.heap.size HSZ4.out A4 (1 + n + j) c4 (be 1 n ++ s.key ++ be j (v / 256 ^ (8 - j))) rfl HLN.out HO4.out _ _ 1 1 [UInt8.ofNat (v / 256 ^ (7 - j))] rfl rfl HBY.out (by omega) (1 + n + (j + 1)) rfl ?_; intro A5 c5 w5 ho hb hg; have K5 := Lib.hid (And.intro ho (And.intro hb hg)); clear ho hb hg)
        go_roundw
        case rel =>
          refine ⟨j + 1, A5, c5, by go_num, rfl, hj8, own_congr K5.out.1 HSN.out, Blk.app (H4.out.2.1.alloc _) HO4.out (by decide) K5.out.2.2, (nextA H4.out.2.2 _).trans K5.out.2.1⟩
        case measure => simp [intOf]; omega
      · obtain rfl : j = 8 := by omega
        have hl8 : be 1 n ++ s.key ++ be 8 (v / 256 ^ (8 - 8)) = be 1 n ++ s.key ++ be 8 v := by rw [show 256 ^ (8 - 8) = 1 from rfl, Nat.div_one]
        have H8 := Lib.hid (And.intro (own_congr H4.out.1 hl8) (And.intro H4.out.2.1 H4.out.2.2))
        have hc3 : w4.cell? ⟨w.heap.size, 3, none⟩ = some (.slice B m d) := H8.out.2.1.cell 3
        have hc2 : w4.cell? ⟨w.heap.size, 2, none⟩ = some (.int .i64 (nd : Int)) := H8.out.2.1.cell 2
        have hm0 : (0 : Int) ≤ (m : Int) := by omega
        have HMN := Lib.hid (show m < 256 ^ 4 ∧ nd < 256 from by have h1 := HM6.out; omega)
        obtain ⟨C5, hC5⟩ : ∃ C5 : Array Value, C5 = #[.int .u8 (nd : Int), .int .u8 ((m : Int) / 16777216), .int .u8 ((m : Int) / 65536 % 256), .int .u8 ((m : Int) / 256 % 256), .int .u8 ((m : Int) % 256)] := ⟨_, rfl⟩
        have h5 : C5.toList = (be 1 nd ++ be 4 m).map u8v := by rw [hC5]; exact five_bytes nd m HMN.out.2 HMN.out.1
        have HBY := Lib.hid (show Bytes (w4.alloc (.cells C5 5)) (w4.heap.size + 1) (some ⟨w4.heap.size, 0, none⟩) (be 1 nd ++ be 4 m) from Bytes.new w4 _ 5 (0, 0) _ h5 _ (Nat.lt_succ_self _))
        have HO4 := Lib.hid (show Mem.Own (w4.alloc (.cells C5 5)) w.heap.size 5 A4 c4 ((be 1 n ++ s.key ++ be 8 v).map u8v) from H8.out.1.alloc _)
        have HSZ4 := Lib.hid (show w.heap.size ≤ (w4.alloc (.cells C5 5)).heap.size from by rw [World.size_alloc]; have := H8.out.2.2.size; omega)
        have HB4 := Lib.hid (show Below w.heap.size w (w4.alloc (.cells C5 5)) from nextA H8.out.2.2 _)
        have HK4 := Lib.hid (H8.out.2.1.alloc (.cells C5 5))
        have HLN := Lib.hid (show (be 1 n ++ s.key ++ be 8 v).length = 1 + n + 8 from by rw [List.length_append, List.length_append, be_len, be_len, HV.out.2.2.1])
        have HC5 := Lib.hid hC5
        rw [hC5] at HO4 HSZ4 HBY
        clear hl8 hc1 H4 h5 hC5
        go_wp2_with (first
          | ((with_reducible show wpList _ _ _ ((⟨some 52, _, _, _, _, _⟩ : Oper) :: _) _ _); refine wpList_appB _ rfl _ _ rfl w.heap.size HSZ4.out A4 (1 + n + 8) c4 (be 1 n ++ s.key ++ be 8 v) rfl HLN.out HO4.out _ _ 5 5 (be 1 nd ++ be 4 m) rfl (by rw [List.length_append, be_len, be_len]) HBY.out (by omega) (1 + n + 8 + 5) rfl ?_; rw [← HC5.out]; intro A5 c5 w5 ho hb hg; have K5 := Lib.hid (And.intro ho (And.intro (HB4.out.trans hb) (Blk.app HK4.out (by rw [HC5.out]; exact HO4.out) (by decide) hg))); have hc3' : w5.cell? ⟨w.heap.size, 3, none⟩ = some (.slice B m d) := K5.out.2.2.cell 3; clear ho hb hg)
          | ((with_reducible show wpList _ _ _ ((⟨some 56, _, _, _, _, _⟩ : Oper) :: _) _ _); refine wpList_appB _ rfl _ _ rfl w.heap.size K5.out.2.1.size A5 (1 + n + 8 + 5) c5 (be 1 n ++ s.key ++ be 8 v ++ (be 1 nd ++ be 4 m)) rfl (by rw [List.length_append, HLN.out, List.length_append, be_len, be_len]) K5.out.1 w.heap.size B m d s.row rfl HV.out.2.2.2 (HK.out.2.below K5.out.2.1) (by have := HM6.out; omega) (1 + n + 8 + 5 + m) rfl ?_; intro A6 c6 w6 ho hb hg; have K6 := Lib.hid (And.intro ho (K5.out.2.1.trans hb)); clear ho hb hg))
        have hbd : be 1 n ++ s.key ++ be 8 v ++ (be 1 nd ++ be 4 m) ++ s.row = s.body := by
          unfold Sh.body
          rw [HV.out.1, HV.out.2.1, HV.out.2.2.1, HV.out.2.2.2, Int.toNat_natCast, Int.toNat_natCast, ← List.append_assoc]
        have H6 := Lib.hid (And.intro (own_congr K6.out.1 hbd) K6.out.2)
        obtain ⟨bl, hbl⟩ : ∃ bl, 1 + n + 8 + 5 + m = bl := ⟨_, rfl⟩
        have HBE := Lib.hid (show s.body.length = bl from by rw [body_len, HV.out.2.2.1, HV.out.2.2.2]; omega)
        have HBM := Lib.hid (show bl ≤ 70000 from by rw [← hbl]; have := HM6.out; omega)
        rw [hbl]
        clear hbd hbl
        refine (rsum_c w6 w6.heap.size A6 s.body bl c6 HBE.out (by have := HBM.out; omega) H6.out.1.bytes (Nat.le_refl _)).mono ?_
        rintro e w' ⟨rfl, rfl⟩
        obtain ⟨sm, hsm⟩ : ∃ sm, (Crc.sum s.body).toNat = sm := ⟨_, rfl⟩
        have HSM := Lib.hid (And.intro hsm (show sm < 256 ^ 4 from by rw [← hsm]; exact (Crc.sum s.body).isLt))
        have hs0 : (0 : Int) ≤ (sm : Int) := by omega
        have hbl3 : (bl : Int) ≤ 256 ^ 3 := by have := HBM.out; omega
        rw [hsm]
        clear hsm
        have HPE := Lib.hid (show s.body ++ be 4 sm = s.put ∧ s.put.length = bl + 4 from ⟨by unfold Sh.put; rw [HSM.out.1], by unfold Sh.put; rw [List.length_append, be_len, HBE.out]⟩)
        obtain ⟨C4, hC4⟩ : ∃ C4 : Array Value, C4 = #[.int .u8 ((sm : Int) / 16777216 % 256), .int .u8 ((sm : Int) / 65536 % 256), .int .u8 ((sm : Int) / 256 % 256), .int .u8 ((sm : Int) % 256)] := ⟨_, rfl⟩
        have HBY6 := Lib.hid (show Bytes (w6.alloc (.cells C4 5)) (w6.heap.size + 1) (some ⟨w6.heap.size, 0, none⟩) (be 4 sm) from Bytes.new w6 _ 5 (0, 0) _ (by rw [hC4]; exact four_bytes sm HSM.out.2) _ (Nat.lt_succ_self _))
        have HO6 := Lib.hid (show Mem.Own (w6.alloc (.cells C4 5)) w.heap.size 5 A6 c6 (s.body.map u8v) from H6.out.1.alloc _)
        have HB6 := Lib.hid (show Below w.heap.size w (w6.alloc (.cells C4 5)) from nextA H6.out.2 _)
        rw [hC4] at HBY6 HO6 HB6
        clear hC4
        go_wp2_with ((with_reducible show wpList _ _ _ ((⟨some 72, _, _, _, _, _⟩ : Oper) :: _) _ _); refine wpList_appB _ rfl _ _ rfl w.heap.size HB6.out.size A6 bl c6 s.body rfl HBE.out HO6.out _ _ 4 4 (be 4 sm) rfl (be_len 4 sm) HBY6.out (by have := HBM.out; omega) (bl + 4) rfl ?_; intro A7 c7 w7 ho hb hg; have K7 := Lib.hid (And.intro ho (HB6.out.trans hb)); clear ho hb hg)
        go_ret2
        exact ⟨fun _ => ⟨A7, c7, by rw [HPE.out.2]; rfl, own_congr K7.out.1 HPE.out.1⟩, fun h => (by rw [HMY.out] at h; cases h), K7.out.2⟩
end Go.Proofs.Ytlmcmcafbepjmaa.ShW
