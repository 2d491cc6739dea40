/- The walk of the closed law of chapter 1. -/
import Derived.Test.YtpebfflokkdfhaaCrcLaws3
import Derived.Deep.LoopGhost
import Derived.Deep.DeepCutAuto
namespace Go.Proofs.Ytpebfflokkdfhaa.CrcW
open Go.RowKit Bv Crc Mem
set_option linter.unusedVariables false

theorem left_num (w : World) (r c : Int) (h0 : 0 ≤ r) (h1 : r ≤ 4294967295) (h2 : 0 ≤ c) (h3 : c ≤ 255) :
    Calls Try.prog 3 #[.int .u32 r, .int .u8 c] w fun e w' => e = .returned (.bool true) ∧ Below w.heap.size w w' := by
  have h := left_any w (BitVec.ofInt 32 r) (UInt8.ofNat c.toNat)
  rw [i32_ofInt r h0 h1] at h
  have e : ((UInt8.ofNat c.toNat).toNat : Int) = c := by
    rw [UInt8.toNat_ofNat', Nat.mod_eq_of_lt (by show c.toNat < 256; omega)]; omega
  rwa [e] at h
theorem turned_num (w : World) (A : Option Addr) (a : List UInt8) (n c : Nat) (hn : n = a.length) (hle : n ≤ c) (hmx : c ≤ maxLen) (hA : Bytes w w.heap.size A a)
    (A' : Option Addr) (b : List UInt8) (n' c' : Nat) (hn' : n' = b.length) (hle' : n' ≤ c') (hmx' : c' ≤ maxLen) (hA' : Bytes w w.heap.size A' b) (bit bh : Int) (hbit : 0 ≤ bit ∧ bit ≤ 255) (hbh : 0 ≤ bh ∧ bh ≤ 65535) :
    Calls Try.prog 7 #[.slice A n c, .slice A' n' c', .int .u8 bit, .int .u16 bh] w fun e w' => e = .returned (.bool true) ∧ Below w.heap.size w w' := by
  subst hn; subst hn'
  have h := turned_any w A a c hle hmx hA A' b c' hle' hmx' hA' (UInt8.ofNat bit.toNat) bh hbh
  have e : ((UInt8.ofNat bit.toNat).toNat : Int) = bit := by
    rw [UInt8.toNat_ofNat', Nat.mod_eq_of_lt (by show bit.toNat < 256; omega)]; omega
  rwa [e] at h

theorem whole_n (w : World) (A : Option Addr) (l : List UInt8) (n c : Nat) (hn : n = l.length) (hle : n ≤ c) (hmx : c ≤ maxLen) (hA : Bytes w w.heap.size A l) :
    Calls Try.prog 4 #[.slice A n c] w fun e w' => e = .returned (.bool true) ∧ Below w.heap.size w w' := by
  subst hn; exact whole_any w A l c hle hmx hA
theorem behind_n (w : World) (A : Option Addr) (l : List UInt8) (n c : Nat) (hn : n = l.length) (hle : n ≤ c) (hmx : c ≤ maxLen) (hA : Bytes w w.heap.size A l) (r : Int) (h0 : 0 ≤ r) (h1 : r ≤ 4294967295) :
    Calls Try.prog 5 #[.slice A n c, .int .u32 r] w fun e w' => e = .returned (.bool true) ∧ Below w.heap.size w w' := by
  subst hn
  have h := behind_any w A l c hle hmx hA (BitVec.ofInt 32 r)
  rwa [i32_ofInt r h0 h1] at h
theorem ends_n (w : World) (A : Option Addr) (l : List UInt8) (n c : Nat) (hn : n = l.length) (hle : n ≤ c) (hmx : c ≤ maxLen) (hA : Bytes w w.heap.size A l)
    (A' : Option Addr) (l' : List UInt8) (n' c' : Nat) (hn' : n' = l'.length) (hle' : n' ≤ c') (hmx' : c' ≤ maxLen) (hA' : Bytes w w.heap.size A' l')
    (A'' : Option Addr) (l'' : List UInt8) (n'' c'' : Nat) (hn'' : n'' = l''.length) (hle'' : n'' ≤ c'') (hmx'' : c'' ≤ maxLen) (hA'' : Bytes w w.heap.size A'' l'') :
    Calls Try.prog 6 #[.slice A n c, .slice A' n' c', .slice A'' n'' c''] w fun e w' => e = .returned (.bool true) ∧ Below w.heap.size w w' := by
  subst hn; subst hn'; subst hn''; exact ends_any w A l c hle hmx hA A' l' c' hle' hmx' hA' A'' l'' c'' hle'' hmx'' hA''
theorem amid_n (w : World) (A : Option Addr) (l : List UInt8) (n c : Nat) (hn : n = l.length) (hle : n ≤ c) (hmx : c ≤ maxLen) (hA : Bytes w w.heap.size A l)
    (A' : Option Addr) (l' : List UInt8) (n' c' : Nat) (hn' : n' = l'.length) (hle' : n' ≤ c') (hmx' : c' ≤ maxLen) (hA' : Bytes w w.heap.size A' l') (r s : Int) (h0 : 0 ≤ r ∧ r ≤ 4294967295) (h1 : 0 ≤ s ∧ s ≤ 4294967295) :
    Calls Try.prog 8 #[.slice A n c, .slice A' n' c', .int .u32 r, .int .u32 s] w fun e w' => e = .returned (.bool true) ∧ Below w.heap.size w w' := by
  subst hn; subst hn'
  have h := amid_any w A l c hle hmx hA A' l' c' hle' hmx' hA' (BitVec.ofInt 32 r) (BitVec.ofInt 32 s)
  rwa [i32_ofInt r h0.1 h0.2, i32_ofInt s h1.1 h1.2] at h
theorem drop0 {w : World} {B b : Nat} {l : List UInt8} (h : Bytes w B (some ⟨b, 0, none⟩) l) (n : Nat) : Bytes w B (some ⟨b, n, none⟩) (l.drop n) := by
  have := h.drop n; rwa [Nat.zero_add] at this
theorem wr32 (n : Int) : 0 ≤ IntKind.u32.wrap n ∧ IntKind.u32.wrap n ≤ 4294967295 := by rw [IntKind.wrap_u32']; omega
theorem wr8 (n : Int) : 0 ≤ IntKind.u8.wrap n ∧ IntKind.u8.wrap n ≤ 255 := by rw [IntKind.wrap_u8']; omega
theorem wr16 (n : Int) : 0 ≤ IntKind.u16.wrap n ∧ IntKind.u16.wrap n ≤ 65535 := by rw [IntKind.wrap_u16]; omega
def upK (k : Nat) : List UInt8 := (List.range 32).map fun j => if j < k then UInt8.ofNat j else 0
def downK (k : Nat) : List UInt8 := (List.range 32).map fun j => if j < k then UInt8.ofNat (31 - j) else 0
def allK (k : Nat) : List UInt8 := (List.range 32).map fun j => if j < k then 255 else 0
theorem upK_len (k : Nat) : (upK k).length = 32 := by simp [upK]
theorem downK_len (k : Nat) : (downK k).length = 32 := by simp [downK]
theorem allK_len (k : Nat) : (allK k).length = 32 := by simp [allK]
theorem upK_set (k : Nat) (hk : k < 32) : (upK k).set k (UInt8.ofNat k) = upK (k + 1) := forall_lt_of_all (p := fun k => (upK k).set k (UInt8.ofNat k) = upK (k + 1)) (by decide +kernel) k hk
theorem downK_set (k : Nat) (hk : k < 32) : (downK k).set k (UInt8.ofNat (31 - k)) = downK (k + 1) := forall_lt_of_all (p := fun k => (downK k).set k (UInt8.ofNat (31 - k)) = downK (k + 1)) (by decide +kernel) k hk
theorem allK_set (k : Nat) (hk : k < 32) : (allK k).set k 255 = allK (k + 1) := forall_lt_of_all (p := fun k => (allK k).set k 255 = allK (k + 1)) (by decide +kernel) k hk
def Z32 : Array Value := (List.replicate 32 (Value.int .u8 0)).toArray
theorem Z32_size : Z32.size = 32 := rfl
theorem Z32_list : Z32.toList = (upK 0).map u8v := rfl
theorem downK_zero : downK 0 = upK 0 := by decide
theorem allK_zero : allK 0 = upK 0 := by decide
theorem own_Z (w : World) (base : Nat) (hb : base ≤ w.heap.size) : Own (w.alloc (.cells Z32 5)) base 5 (some ⟨w.heap.size, 0, none⟩) 32 ((upK 0).map u8v) := by
  have h := own_made w Z32 5 (by rw [Z32_size]; decide) hb
  rwa [Z32_size, Z32_list] at h
theorem own_Z2 (w : World) (o : Obj) (base : Nat) (hb : base ≤ w.heap.size) : Own ((w.alloc o).alloc (.cells Z32 5)) base 5 (some ⟨w.heap.size + 1, 0, none⟩) 32 ((upK 0).map u8v) := by
  have h := own_Z (w.alloc o) base (by simp; omega)
  have e : (w.alloc o).heap.size = w.heap.size + 1 := by simp
  rwa [e] at h
theorem make32 (W : World) : (Instr.makeSlice 26 (.int .i64 32) (.int .i64 32)).run Try.prog W = .ok (.slice (some ⟨W.heap.size, 0, none⟩) 32 32) (W.alloc (.cells Z32 5)) := by kernel_rfl
theorem known_sums : i32 (Crc.sum []) = 0 ∧ i32 (Crc.sum (upK 0)) = 2324772522 ∧ i32 (Crc.sum (allK 32)) = 1655221059 ∧ i32 (Crc.sum (upK 32)) = 1188919630 ∧ i32 (Crc.sum (downK 32)) = 289397596 ∧ i32 (Crc.step (BitVec.ofInt 32 4294967295) (UInt8.ofNat (0 : Int).toNat)) = 2911022254 := by decide +kernel

set_option maxHeartbeats 800000 in
set_option maxRecDepth 100000 in
theorem known_any (w : World) :
    Calls Try.prog 9 #[] w fun e w' => e = .returned (.bool true) ∧ Below w.heap.size w w' := by
  have hmk := make32
  go_enter Try.func9, Try.ntmps9
  go_upto_region 1 with fail
  go_cut [1, 2] (fun s1 s2 wx => ∃ g1 g2 : Nat, s1 = .slice (some ⟨g1, 0, none⟩) 32 32 ∧ s2 = .slice (some ⟨g2, 0, none⟩) 32 32 ∧ g1 ≠ g2 ∧ Own wx w.heap.size 5 (some ⟨g1, 0, none⟩) 32 ((upK 0).map u8v) ∧ Own wx w.heap.size 5 (some ⟨g2, 0, none⟩) 32 ((upK 0).map u8v) ∧ Below w.heap.size w wx)
  case first =>
    go_region
    all_goals
      go_wp2_with fail
      go_meet
    case rel => exact ⟨_, _, rfl, rfl, by omega, (own_Z w _ (Nat.le_refl _)).alloc _, own_Z2 w _ _ (Nat.le_refl _), nextN (nextA (nextA (Mem.start w) _) _) 1⟩
    case rel => exact ⟨_, _, rfl, rfl, by omega, own_Z2 w _ _ (Nat.le_refl _), (own_Z w _ (Nat.le_refl _)).alloc _, nextN (nextA (nextA (Mem.start w) _) _) 1⟩
  case rest =>
    obtain ⟨g1, g2, rfl, rfl, h12, ho1, ho2, hb⟩ := hcut
    go_wp2_with fail
    have hz := hb.size
    have ho3 := own_Z wc w.heap.size hz
    have h13 : g1 ≠ wc.heap.size := by
      obtain ⟨g, hq, _, hlt, _⟩ := ho1.at_ (k := 0) (by simp [upK_len])
      injection hq with hq; injection hq with hq; omega
    have h23 : g2 ≠ wc.heap.size := by
      obtain ⟨g, hq, _, hlt, _⟩ := ho2.at_ (k := 0) (by simp [upK_len])
      injection hq with hq; injection hq with hq; omega
    have hb' := nextA hb (.cells Z32 5)
    have ho1' := ho1.alloc (.cells Z32 5)
    have ho2' := ho2.alloc (.cells Z32 5)
    rw [← downK_zero] at ho2'
    rw [← allK_zero] at ho3
    clear ho1 ho2 hb hz
    generalize wc.heap.size = g3 at *
    generalize wc.alloc (.cells Z32 5) = wd at *
    go_loopw [4] (fun i wr => ∃ k : Nat, k ≤ 32 ∧ i = .int .i64 k ∧ Own wr w.heap.size 5 (some ⟨g1, 0, none⟩) 32 ((upK k).map u8v) ∧ Own wr w.heap.size 5 (some ⟨g2, 0, none⟩) 32 ((downK k).map u8v) ∧ Own wr w.heap.size 5 (some ⟨g3, 0, none⟩) 32 ((allK k).map u8v) ∧ Below w.heap.size w wr) (fun i _ => 32 - (intOf i).toNat)
    case atStart => exact ⟨0, by omega, rfl, ho1', ho2', ho3, hb'⟩
    case round =>
      clear ho1' ho2' ho3 hb'
      obtain ⟨k, hk, rfl, ho1, ho2, ho3, hb⟩ := hrel
      by_cases hlt : k < 32
      · have g0 : (0 : Int) ≤ (k : Int) := by omega
        have g1' : (k : Int) < 32 := by omega
        obtain ⟨g, hq, hg1, _, hc1, hf1, hu1⟩ := ho1.at_ (k := k) (by simp [upK_len]; omega)
        injection hq with hq; injection hq with hq; subst hq
        obtain ⟨g, hq, hg2, _, hc2, hf2, hu2⟩ := ho2.at_ (k := k) (by simp [downK_len]; omega)
        injection hq with hq; injection hq with hq; subst hq
        obtain ⟨g, hq, hg3, _, hc3, hf3, hu3⟩ := ho3.at_ (k := k) (by simp [allK_len]; omega)
        injection hq with hq; injection hq with hq; subst hq
        clear hu1 hu2 hu3
        have HO1 := Lib.hid ho1
        have HO2 := Lib.hid ho2
        have HO3 := Lib.hid ho3
        clear ho1 ho2 ho3
        go_wp2_with fail
        have hw1 : (k : Int) = ((UInt8.ofNat k).toNat : Int) := by rw [UInt8.toNat_ofNat', Nat.mod_eq_of_lt (by show k < 256; omega)]
        have hw2 : (31 : Int) - (k : Int) = ((UInt8.ofNat (31 - k)).toNat : Int) := by rw [UInt8.toNat_ofNat', Nat.mod_eq_of_lt (by show 31 - k < 256; omega)]; omega
        have ho1 := own_far (own_far (own_set HO1.out (k := k) (by rw [upK_len]; exact hlt) _ _ hw1) (p := ⟨g2, k, none⟩) (fun e => h12 e.symm) (.int .u8 (31 - (k : Int)))) (p := ⟨g3, k, none⟩) (fun e => h13 e.symm) (.int .u8 255)
        have ho2 := own_far (own_set (own_far HO2.out (p := ⟨g1, k, none⟩) h12 (.int .u8 (k : Int))) (k := k) (by rw [downK_len]; exact hlt) _ _ hw2) (p := ⟨g3, k, none⟩) (fun e => h23 e.symm) (.int .u8 255)
        have ho3 := own_set (own_far (own_far HO3.out (p := ⟨g1, k, none⟩) h13 (.int .u8 (k : Int))) (p := ⟨g2, k, none⟩) h23 (.int .u8 (31 - (k : Int)))) (k := k) (by rw [allK_len]; exact hlt) 255 255 rfl
        rw [upK_set k hlt] at ho1
        rw [downK_set k hlt] at ho2
        rw [allK_set k hlt] at ho3
        have hb3 := ((hb.setCell (p := ⟨g1, k, none⟩) hg1 (.int .u8 (k : Int))).setCell (p := ⟨g2, k, none⟩) hg2 (.int .u8 (31 - (k : Int)))).setCell (p := ⟨g3, k, none⟩) hg3 (.int .u8 255)
        clear hw1 hw2 HO1 HO2 HO3 hb hc1 hc2 hc3 hf1 hf2 hf3
        generalize ((wr.setCell ⟨g1, k, none⟩ (.int .u8 (k : Int))).setCell ⟨g2, k, none⟩ (.int .u8 (31 - (k : Int)))).setCell ⟨g3, k, none⟩ (.int .u8 255) = ws at *
        go_loopw [5] (fun i wq => ∃ j : Nat, j ≤ 8 ∧ i = .int .i64 j ∧ Below ws.heap.size ws wq) (fun i _ => 8 - (intOf i).toNat)
        case atStart => exact ⟨0, by omega, rfl, Below.refl _ _⟩
        case round =>
          obtain ⟨j, hj, rfl, hbq⟩ := hrel
          by_cases hjlt : j < 8
          · have g2' : (0 : Int) ≤ (j : Int) := by omega
            have g3' : (j : Int) < 8 := by omega
            have hs := hbq.size
            go_wp2_with fail
            go_region_held3 (fun _ => True) (exact trivial) (first
              | (go_at_call_of 3 (Value.int .u8 255); ((with_reducible refine (left_num _ _ _ (wr32 _).1 (wr32 _).2 (by decide) (by decide)).mono ?_); rintro e w2 ⟨rfl, hb2⟩))
              | (go_at_call 3; ((with_reducible refine (left_num _ _ _ (wr32 _).1 (wr32 _).2 (wr8 _).1 (wr8 _).2).mono ?_); rintro e w1 ⟨rfl, hb1⟩))
              | (go_at_call 7; ((with_reducible refine (turned_num _ _ (upK (k + 1)) _ _ (upK_len _).symm (by omega) (by decide) (ho1.keep (next (next hbq.drew hb1) hb2)).bytes _ (downK (k + 1)) _ _ (downK_len _).symm (by omega) (by decide) (ho2.keep (next (next hbq.drew hb1) hb2)).bytes _ _ (wr8 _) (wr16 _)).mono ?_); rintro e w3 ⟨rfl, hb3⟩)))
            go_wp2_with fail
            go_roundw
            case rel => exact ⟨j + 1, by omega, by go_num, next (next (next hbq.drew hb1) hb2) hb3⟩
            case measure => simp [intOf]; omega
          · go_wp2_with fail
            go_roundw
            case rel => exact ⟨k + 1, by omega, by go_num, ho1.keep hbq, ho2.keep hbq, ho3.keep hbq, next hb3 hbq⟩
            case measure => simp [intOf]; omega
      · obtain rfl : k = 32 := by omega
        obtain ⟨ks0, ks1, ks2, ks3, ks4, ks5⟩ := known_sums
        go_wp2_with fail
        refine (sum_n none [] 0 0 _ rfl (by decide) Bytes.nil).mono ?_
        rintro e w1 ⟨rfl, hb1⟩
        rw [ks0]
        have hb01 := next hb hb1
        have hq1 := ho1.keep hb1
        have hq2 := ho2.keep hb1
        have hq3 := ho3.keep hb1
        clear ho1 ho2 ho3 hb hb1
        go_wp2_with fail
        have hz1 := own_Z w1 w1.heap.size (Nat.le_refl _)
        refine (sum_n _ (upK 0) 32 32 _ (upK_len _).symm (by decide) hz1.bytes).mono ?_
        rintro e w2 ⟨rfl, hb2⟩
        rw [ks1]
        have hb02 := next (nextA hb01 _) hb2
        have hr1 := (hq1.alloc _).keep hb2
        have hr2 := (hq2.alloc _).keep hb2
        have hr3 := (hq3.alloc _).keep hb2
        clear hq1 hq2 hq3 hb2 hz1 hb01
        go_wp2_with fail
        refine (sum_n _ (allK 32) 32 32 _ (allK_len _).symm (by decide) hr3.bytes).mono ?_
        rintro e w3 ⟨rfl, hb3⟩
        rw [ks2]
        have hb03 := next hb02 hb3
        have hq1 := hr1.keep hb3
        have hq2 := hr2.keep hb3
        have hq3 := hr3.keep hb3
        clear hr1 hr2 hr3 hb3 hb02
        go_wp2_with fail
        refine (sum_n _ (upK 32) 32 32 _ (upK_len _).symm (by decide) hq1.bytes).mono ?_
        rintro e w4 ⟨rfl, hb4⟩
        rw [ks3]
        have hb04 := next hb03 hb4
        have hr1 := hq1.keep hb4
        have hr2 := hq2.keep hb4
        have hr3 := hq3.keep hb4
        clear hq1 hq2 hq3 hb4 hb03
        go_wp2_with fail
        refine (sum_n _ (downK 32) 32 32 _ (downK_len _).symm (by decide) hr2.bytes).mono ?_
        rintro e w5 ⟨rfl, hb5⟩
        rw [ks4]
        have hb05 := next hb04 hb5
        have hq1 := hr1.keep hb5
        have hq2 := hr2.keep hb5
        have hq3 := hr3.keep hb5
        clear hr1 hr2 hr3 hb5 hb04
        go_wp2_with fail
        refine (step_num 4294967295 0 _ (by decide) (by decide) (by decide) (by decide)).mono ?_
        rintro e w6 ⟨rfl, hb6⟩
        rw [ks5]
        have hb06 := next hb05 hb6
        have hr1 := hq1.keep hb6
        have hr2 := hq2.keep hb6
        have hr3 := hq3.keep hb6
        clear hq1 hq2 hq3 hb6 hb05 ks0 ks1 ks2 ks3 ks4 ks5
        go_wp2_with fail
        go_loopw [6] (fun i wq => ∃ j : Nat, j ≤ 32 ∧ i = .int .i64 j ∧ Below w6.heap.size w6 wq) (fun i _ => 32 - (intOf i).toNat)
        case atStart => exact ⟨0, by omega, rfl, Below.refl _ _⟩
        case round =>
          obtain ⟨j, hj, rfl, hbq⟩ := hrel
          by_cases hjlt : j < 32
          · have g2' : (0 : Int) ≤ (j : Int) := by omega
            have g3' : (j : Int) < 32 := by omega
            have g4' : (j : Int) ≤ 32 := by omega
            have g5' : ¬ 32 = j := by omega
            have hs := hbq.size
            have hlu : j = ((upK 32).take j).length := by rw [List.length_take, upK_len]; omega
            have hld : j = ((downK 32).take j).length := by rw [List.length_take, downK_len]; omega
            have hla : j = ((allK 32).take j).length := by rw [List.length_take, allK_len]; omega
            have hldd : 32 - j = ((downK 32).drop j).length := by rw [List.length_drop, downK_len]
            have hle32 : j ≤ 32 := hj
            have hmx32 : 32 ≤ maxLen := by decide
            have hmxj : 32 - j ≤ maxLen := Nat.le_trans (Nat.sub_le _ _) hmx32
            have HLU := Lib.hid hlu
            have HLD := Lib.hid hld
            have HLA := Lib.hid hla
            have HLDD := Lib.hid hldd
            clear hlu hld hla hldd
            go_wp2_with fail
            go_region_held3 (fun _ => True) (exact trivial) (first
              | (go_at_call 4; ((with_reducible refine (whole_n _ _ _ _ _ HLU.out hle32 hmx32 ((hr1.keep hbq.drew).bytes.take j)).mono ?_); rintro e v1 ⟨rfl, hv1⟩))
              | (go_at_call 5; ((with_reducible refine (behind_n _ _ _ _ _ HLD.out hle32 hmx32 ((hr2.keep (next hbq.drew hv1)).bytes.take j) _ (wr32 _).1 (wr32 _).2).mono ?_); rintro e v2 ⟨rfl, hv2⟩))
              | (go_at_call 6; ((with_reducible refine (ends_n _ _ _ _ _ HLU.out hle32 hmx32 ((hr1.keep (next (next hbq.drew hv1) hv2)).bytes.take j) _ (downK 32) _ _ (downK_len _).symm (Nat.le_refl _) hmx32 (hr2.keep (next (next hbq.drew hv1) hv2)).bytes _ _ _ _ HLA.out hle32 hmx32 ((hr3.keep (next (next hbq.drew hv1) hv2)).bytes.take j)).mono ?_); rintro e v3 ⟨rfl, hv3⟩))
              | (go_at_call 8; ((with_reducible refine (amid_n _ _ _ _ _ HLU.out hle32 hmx32 ((hr1.keep (next (next (next hbq.drew hv1) hv2) hv3)).bytes.take j) _ _ _ _ HLDD.out (Nat.le_refl _) hmxj (drop0 (hr2.keep (next (next (next hbq.drew hv1) hv2) hv3)).bytes j) _ _ (wr32 _) (wr32 _)).mono ?_); rintro e v4 ⟨rfl, hv4⟩)))
            go_wp2_with fail
            go_roundw
            case rel => exact ⟨j + 1, by omega, by go_num, next (next (next (next hbq.drew hv1) hv2) hv3) hv4⟩
            case measure => simp [intOf]; omega
          · go_wp2_with fail
            refine (works_any _).mono ?_
            rintro e w7 ⟨rfl, hb7⟩
            go_wp2_with fail
            go_ret
            exact ⟨rfl, next (next hb06 hbq) hb7⟩
end Go.Proofs.Ytpebfflokkdfhaa.CrcW
