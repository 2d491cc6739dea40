/- The law PolyRoots: its walk. -/
import Derived.Test.YtciilojlfaihjaaPlLawSt
namespace Go.Proofs.Ytciilojlfaihjaa.PlW
open Go.RowKit Mem Gf FdW Pl Rng
set_option linter.unusedVariables false
/-- How many of the first k bytes are roots. -/
def cntR (b : List UInt8) (k : Nat) : Nat := ((List.range k).filter fun i => ev b (UInt8.ofNat i) == 0).length
theorem cntR_le (b : List UInt8) (k : Nat) : cntR b k ≤ k := by
  have := List.length_filter_le (fun i => ev b (UInt8.ofNat i) == 0) (List.range k)
  rwa [List.length_range] at this
theorem cntR_succ (b : List UInt8) {k : Nat} (hk : k < 256) {c : UInt8} (hc : c.toNat = k) : cntR b (k + 1) = if ev b c = 0 then cntR b k + 1 else cntR b k := by
  have e : UInt8.ofNat k = c := UInt8.toNat_inj.1 (by rw [UInt8.toNat_ofNat', hc]; omega)
  unfold cntR
  rw [List.range_succ, List.filter_append, List.length_append]
  by_cases h : ev b c = 0
  · rw [if_pos h]; simp [e, h]
  · rw [if_neg h]; simp [e, h]
theorem cntR_bound (b : List UInt8) : len b ≠ 0 → cntR b 256 + 1 ≤ len b := fun hb => by
  have h := roots_le (((List.range 256).filter fun i => ev b (UInt8.ofNat i) == 0).map UInt8.ofNat) b ?_ hb ?_
  · rw [List.length_map] at h; exact h
  · refine List.pairwise_map.2 (List.Pairwise.imp_of_mem ?_ (List.Pairwise.filter _ (List.nodup_range (n := 256))))
    intro x y hx hy hne e
    have hx' := (List.mem_range.1 (List.mem_filter.1 hx).1)
    have hy' := (List.mem_range.1 (List.mem_filter.1 hy).1)
    have := congrArg UInt8.toNat e
    rw [UInt8.toNat_ofNat', UInt8.toNat_ofNat'] at this
    omega
  · intro x hx
    obtain ⟨i, hi, rfl⟩ := List.mem_map.1 hx
    have := (List.mem_filter.1 hi).2
    simpa using this
/-- Is k among the first j? -/
def anyR (a : List UInt8) (j k : Nat) : Bool := (a.take j).any fun c => c.toNat == k
theorem anyR_succ {a : List UInt8} {j : Nat} (hj : j < a.length) (k : Nat) : anyR a (j + 1) k = (anyR a j k || ((cf a j).toNat == k)) := by
  unfold anyR
  rw [List.take_succ_eq_append_getElem hj, List.any_append, cf_lt hj]; simp
theorem anyR_all (a : List UInt8) {c : UInt8} {k : Nat} (h : c.toNat = k) : anyR a a.length k = decide (c ∈ a) := by
  unfold anyR
  rw [List.take_length, Bool.eq_iff_iff, List.any_eq_true, decide_eq_true_iff]
  constructor
  · rintro ⟨x, hx, he⟩
    have : x = c := UInt8.toNat_inj.1 (by rw [h]; exact beq_iff_eq.1 he)
    rwa [this] at hx
  · intro hm; exact ⟨c, hm, by simp [h]⟩
theorem roots_ev (a : List UInt8) (c : UInt8) : ev (trim (rootsP a)) c = 0 ↔ c ∈ a := by rw [ev_congr (trim_eqv _), (rootsP_facts a).2]
set_option maxRecDepth 100000 in
set_option maxHeartbeats 4000000 in
theorem polyroots_big0 (w : World) (A : Option Addr) (a : List UInt8) (ca : Nat) (hca : a.length ≤ ca) (hA : Bytes w w.heap.size A a) (B : Option Addr) (b : List UInt8) (cb : Nat) (hcb : b.length ≤ cb) (hB : Bytes w w.heap.size B b) (h : 20 < a.length) :
    Calls Try.prog 8 #[.slice A a.length ca, .slice B b.length cb] w fun e w' => e = .returned (.bool true) ∧ Below w.heap.size w w' := by
  have h0 : (20 : Int) < (a.length : Int) := by omega
  clear h
  go_enter Try.func8, Try.ntmps8
  go_wp2_with fail
  refine (works_any _).mono ?_
  rintro e w1 ⟨rfl, hb⟩
  have H1 := Lib.hid hb
  clear hb
  go_wp2_with fail
  go_ret
  exact ⟨rfl, H1.out⟩
set_option maxRecDepth 100000 in
set_option maxHeartbeats 4000000 in
theorem polyroots_big1 (w : World) (A : Option Addr) (a : List UInt8) (ca : Nat) (hca : a.length ≤ ca) (hA : Bytes w w.heap.size A a) (B : Option Addr) (b : List UInt8) (cb : Nat) (hcb : b.length ≤ cb) (hB : Bytes w w.heap.size B b) (h : a.length ≤ 20 ∧ 20 < b.length) :
    Calls Try.prog 8 #[.slice A a.length ca, .slice B b.length cb] w fun e w' => e = .returned (.bool true) ∧ Below w.heap.size w w' := by
  have h0 : ¬ (20 : Int) < (a.length : Int) := by omega
  have h1 : (20 : Int) < (b.length : Int) := by omega
  clear h
  go_enter Try.func8, Try.ntmps8
  go_wp2_with fail
  refine (works_any _).mono ?_
  rintro e w1 ⟨rfl, hb⟩
  have H1 := Lib.hid hb
  clear hb
  go_wp2_with fail
  go_ret
  exact ⟨rfl, H1.out⟩
set_option maxRecDepth 100000 in
set_option maxHeartbeats 4000000 in
theorem roots_1 (w : World) (A : Option Addr) (a : List UInt8) (ca : Nat) (hca : a.length ≤ ca) (hA : Bytes w w.heap.size A a) (B : Option Addr) (b : List UInt8) (cb : Nat) (hcb : b.length ≤ cb) (hB : Bytes w w.heap.size B b) (h : a.length ≤ 20 ∧ b.length ≤ 20) :
    Calls Try.prog 8 #[.slice A a.length ca, .slice B b.length cb] w fun e w' => e = .returned (.bool true) ∧ Below w.heap.size w w' := by
  have hs0 : ¬ (20 : Int) < (a.length : Int) := by omega
  have hs1 : ¬ (20 : Int) < (b.length : Int) := by omega
  have H0 := Lib.hid (((PB.start w).arg 20 hB hcb h.2).arg 20 hA hca h.1)
  have HXL := Lib.hid h
  clear h
  go_enter Try.func8, Try.ntmps8
  go_wp2_with fail
  refine (newP H0.out).mono ?_
  rintro e w1 ⟨rfl, h⟩
  have H1 := Lib.hid h
  clear h
  go_wp2_with fail
  refine (rootsR H1.out (a := a) (na := 20) (by simp) _ rfl (by decide) 21 (by decide)).mono ?_
  rintro e w2 ⟨A2, c2, rfl, h⟩
  have H2 := Lib.hid h
  clear h
  go_wp2_with fail
  go_loopw [7, 8] (fun s i wr => ∃ k : Nat, i = .int .i64 (k : Int) ∧ k ≤ 256 ∧ s = .int .i64 (cntR b k : Int) ∧ PS w w.heap.size [⟨A2, trim (rootsP a), c2, 21⟩, ⟨A, a, ca, 20⟩, ⟨B, b, cb, 20⟩] wr) (fun _ i _ => 256 - (intOf i).toNat)
  case atStart => exact ⟨0, rfl, by omega, rfl, H2.out⟩
  case round =>
    obtain ⟨k, rfl, hk, rfl, hps⟩ := hrel
    have HPS := Lib.hid hps
    have hcnt := cntR_le b k
    clear hps
    have hcni : (cntR b k : Int) ≤ 256 := by omega
    by_cases hk6 : k < 256
    · have hki : (k : Int) < 256 := by omega
      obtain ⟨c, hck⟩ : ∃ c : UInt8, (c.toNat : Int) = (k : Int) := ⟨UInt8.ofNat k, by rw [UInt8.toNat_ofNat']; omega⟩
      have HCK := Lib.hid (And.intro hck (cntR_succ b hk6 (c := c) (by omega)))
      have hmod : (k : Int) % 256 = (c.toNat : Int) := by omega
      clear hck hk hcnt
      go_wp2_with fail
      go_loop [9, 10] (fun s i => ∃ j : Nat, i = .int .i64 (j : Int) ∧ j ≤ a.length ∧ s = .bool (anyR a j k)) (fun _ i => a.length - (intOf i).toNat)
      case atStart => exact ⟨0, rfl, Nat.zero_le _, rfl⟩
      case round =>
        obtain ⟨j, rfl, hj, rfl⟩ := hrel
        by_cases hja : j < a.length
        · obtain ⟨ga, oa, rfl, _, hca2⟩ := (HPS.out.2 ⟨A, a, ca, 20⟩ (by simp)).1.1.at_ (k := j) hja
          dsimp only at hca2
          rw [← cf_lt hja] at hca2
          have HS := Lib.hid (anyR_succ hja k)
          have hji : (j : Int) < (a.length : Int) := by omega
          obtain ⟨z, hz⟩ : ∃ z, cf a j = z := ⟨_, rfl⟩
          rw [hz] at hca2 HS
          have hz5 : (z.toNat : Int) < 256 := by have := z.toNat_lt; omega
          clear hz
          cases hb0 : anyR a j k
          · rw [hb0] at HS
            clear hb0
            have hbe : ((z.toNat : Int) == (k : Int)) = (z.toNat == k) := by rw [Bool.eq_iff_iff, beq_iff_eq, beq_iff_eq]; omega
            have HS2 := Lib.hid (show anyR a (j + 1) k = (z.toNat == k) from by rw [HS.out]; rfl)
            generalize (z.toNat == k) = bb at *
            go_wp2_with fail
            go_round
            case rel => exact ⟨j + 1, rfl, hja, by rw [HS2.out]⟩
            case measure => simp [intOf]; omega
          · rw [hb0] at HS
            clear hb0
            go_wp2_with fail
            go_round
            case rel => exact ⟨j + 1, rfl, hja, by rw [HS.out]; rfl⟩
            case measure => simp [intOf]; omega
        · obtain rfl : j = a.length := by omega
          have HAny := Lib.hid (anyR_all a (c := c) (k := k) (by have := HCK.out.1; omega))
          have HEv := Lib.hid (roots_ev a c)
          have hbz : (((ev (trim (rootsP a)) c).toNat : Int) == 0) = anyR a a.length k := by rw [u8_zero, HAny.out, Bool.eq_iff_iff, beq_iff_eq, decide_eq_true_iff]; exact HEv.out
          clear hja hj
          generalize anyR a a.length k = rr at *
          go_wp2_with fail
          refine (atR HPS.out (a := trim (rootsP a)) (na := 21) (by simp) _ rfl (by decide) _ c (by first | exact HCK.out.1.symm | exact hmod)).mono ?_
          rintro e w3 ⟨rfl, h⟩
          generalize (ev (trim (rootsP a)) c).toNat = e1 at *
          have H3 := Lib.hid h
          clear h
          have hrr : ((rr != rr) : Bool) = false := by cases rr <;> rfl
          by_cases hz : ev b c = 0
          · have HCN := Lib.hid (show cntR b (k + 1) = cntR b k + 1 from by rw [HCK.out.2, if_pos hz])
            have hbz2 : (((ev b c).toNat : Int) == 0) = true := zero_yes hz
            clear hz
            go_wp2_with fail
            refine (atR H3.out (a := b) (na := 20) (by simp) _ rfl (by decide) _ c (by first | exact HCK.out.1.symm | exact hmod)).mono ?_
            rintro e w4 ⟨rfl, h⟩
            have H4 := Lib.hid h
            clear h
            generalize (ev b c).toNat = e2 at *
            go_wp2_with fail
            go_roundw
            case rel => exact ⟨k + 1, rfl, by omega, by rw [HCN.out]; rfl, H4.out⟩
            case measure => simp [intOf]; omega
          · have HCN := Lib.hid (show cntR b (k + 1) = cntR b k from by rw [HCK.out.2, if_neg hz])
            have hbz2 : (((ev b c).toNat : Int) == 0) = false := u8_zero_no hz
            clear hz
            go_wp2_with fail
            refine (atR H3.out (a := b) (na := 20) (by simp) _ rfl (by decide) _ c (by first | exact HCK.out.1.symm | exact hmod)).mono ?_
            rintro e w4 ⟨rfl, h⟩
            have H4 := Lib.hid h
            clear h
            generalize (ev b c).toNat = e2 at *
            go_wp2_with fail
            go_roundw
            case rel => exact ⟨k + 1, rfl, by omega, by rw [HCN.out], H4.out⟩
            case measure => simp [intOf]; omega
    · obtain rfl : k = 256 := by omega
      have HC := Lib.hid (cntR_bound b)
      have HLR := Lib.hid (show len (trim (rootsP a)) = a.length + 1 from by rw [len_congr (trim_eqv _), rootsP_len])
      generalize cntR b 256 = cn at *
      clear hk hk6 hcnt
      go_wp2_with fail
      refine (degR HPS.out (a := b) (na := 20) (by simp) _ rfl (by decide)).mono ?_
      rintro e w5 ⟨rfl, h⟩
      have H5 := Lib.hid h
      clear h
      go_wp2_with fail
      refine (degR H5.out (a := trim (rootsP a)) (na := 21) (by simp) _ rfl (by decide)).mono ?_
      rintro e w6 ⟨rfl, h⟩
      rw [show (len (trim (rootsP a)) : Int) - 1 = (a.length : Int) from by have := HLR.out; omega]
      have H6 := Lib.hid h
      clear h
      have hcb := HC.out
      have hlb : (len b : Int) ≤ 20 := by have := len_le b; have := HXL.out.2; omega
      by_cases hl0 : len b = 0
      · have e1 : (len b : Int) - 1 = -1 := by omega
        clear hcb hl0 hlb
        rw [e1]
        clear e1
        go_wp2_with fail
        refine (works_any _).mono ?_
        rintro e w7 ⟨rfl, hb⟩
        have H7 := Lib.hid (PS.keep H6.out hb)
        clear hb
        go_wp2_with fail
        go_ret
        exact ⟨rfl, PS.below H7.out⟩
      · obtain ⟨mb, hmb⟩ : ∃ mb, len b = mb + 1 := ⟨len b - 1, by omega⟩
        have e1 : (len b : Int) - 1 = (mb : Int) := by omega
        have hle : (cn : Int) ≤ (mb : Int) := by have := hcb hl0; omega
        have hm9 : (mb : Int) ≤ 20 := by omega
        clear hcb hl0 hlb hmb
        rw [e1]
        clear e1
        go_wp2_with fail
        refine (works_any _).mono ?_
        rintro e w7 ⟨rfl, hb⟩
        have H7 := Lib.hid (PS.keep H6.out hb)
        clear hb
        go_wp2_with fail
        go_ret
        exact ⟨rfl, PS.below H7.out⟩
theorem lroots_any (w : World) (A : Option Addr) (a : List UInt8) (ca : Nat) (hca : a.length ≤ ca) (hA : Bytes w w.heap.size A a) (B : Option Addr) (b : List UInt8) (cb : Nat) (hcb : b.length ≤ cb) (hB : Bytes w w.heap.size B b) :
    Calls Try.prog 8 #[.slice A a.length ca, .slice B b.length cb] w fun e w' => e = .returned (.bool true) ∧ Below w.heap.size w w' := by
  by_cases hs0 : a.length ≤ 20
  · skip
    by_cases hs1 : b.length ≤ 20
    · skip
      exact roots_1 w A a ca hca hA B b cb hcb hB ⟨hs0, hs1⟩
    · exact polyroots_big1 w A a ca hca hA B b cb hcb hB (by omega)
  · exact polyroots_big0 w A a ca hca hA B b cb hcb hB (by omega)
theorem roots_law (w : World) (A : Option Addr) (a : List UInt8) (ca : Nat) (hca : a.length ≤ ca) (_ : ca ≤ maxLen) (hA : Bytes w w.heap.size A a) (B : Option Addr) (b : List UInt8) (cb : Nat) (hcb : b.length ≤ cb) (_ : cb ≤ maxLen) (hB : Bytes w w.heap.size B b) :
    Calls Try.prog 8 #[.slice A a.length ca, .slice B b.length cb] w fun e w' => e = .returned (.bool true) ∧ Below w.heap.size w w' := by
  exact lroots_any w A a ca hca hA B b cb hcb hB
end Go.Proofs.Ytciilojlfaihjaa.PlW
