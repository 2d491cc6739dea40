/- Package wire's reader: want, raw, number, text. -/
import Derived.Test.YtebdmfmadbikaaaDoorWrPut
namespace Go.Proofs.YtebdmfmadbikaaaDoor.WiW
open Go.RowKit Go.Shelf Mem Fds FdW Wi Rng
set_option linter.unusedVariables false
set_option linter.unusedSimpArgs false

/-- What is thrown. -/
def thrown : List PanicEntry := [{ v := .iface 70 (.agg #[]), recovered := false }]
/-- A reader at p with the bytes l left; they lie below B. -/
def Rd (w : World) (B p : Nat) (l : List UInt8) : Prop := B ≤ p ∧ ∃ A c, Blk w p 73 #[.slice A l.length c] ∧ Bytes w B A l ∧ l.length ≤ c ∧ c ≤ 9223372036854775807
/-- What a reading leaves: a value and the rest, or the throw. -/
def RdR (w : World) (B p : Nat) (o : Option (Value × List UInt8)) (e : Ending) (w' : World) : Prop :=
  Fr (fun k => k = p) w w' ∧ match o with
    | some q => e = .returned q.1 ∧ Rd w' B p q.2
    | none => e = .panicked thrown
theorem Rd.keep {w w' : World} {B p : Nat} {l : List UInt8} (h : Rd w B p l) (hb : Below w.heap.size w w') : Rd w' B p l := by
  obtain ⟨h0, A, c, h1, h2, h3⟩ := h
  exact ⟨h0, A, c, h1.keep hb, h2.below (hb.mono (Nat.le_trans h0 (Nat.le_of_lt h1.lt))), h3⟩
theorem Rd.fr {S : Nat → Prop} {w w' : World} {B p : Nat} {l : List UInt8} (h : Rd w B p l) (hf : Fr S w w') (hS : ∀ k, S k → B ≤ k) (hp : ¬ S p) : Rd w' B p l := by
  obtain ⟨h0, A, c, h1, h2, h3⟩ := h
  exact ⟨h0, A, c, h1.fr hf hp, h2.below (hf.below (Nat.le_trans h0 (Nat.le_of_lt h1.lt)) hS), h3⟩

theorem bytes_dropA {w : World} {B : Nat} {A : Option Addr} {l : List UInt8} (h : Bytes w B A l) (n : Nat) : Bytes w B (A.map fun x => x.add n) (l.drop n) := fun hl => by
  obtain ⟨b, off, e, hb, hc⟩ := h (by simp at hl ⊢; omega)
  subst e
  have := Bytes.drop h n hl
  rwa [Option.map_some, Addr.add_mid]
theorem want_ok (w : World) : Calls Tryd.prog 37 #[.bool true] w fun e w' => e = .returned (.tuple #[]) ∧ w = w' := by
  go_enter Tryd.func37, Tryd.ntmps37
  go_wp2_with fail
  go_end0
  exact ⟨rfl, rfl⟩
theorem want_no (w : World) : Calls Tryd.prog 37 #[.bool false] w fun e w' => e = .panicked thrown ∧ w = w' := by
  have hb : ∀ W : World, (Instr.build 70 #[]).run Tryd.prog W = .ok (.agg #[]) W := fun W => by kernel_rfl
  go_enter Tryd.func37, Tryd.ntmps37
  go_wp2_with fail
  exact ⟨rfl, rfl, rfl⟩

set_option maxHeartbeats 1000000 in
theorem raw_any (w : World) (B p n : Nat) (l : List UInt8) (h : Rd w B p l) (hn : n ≤ 4294967295) :
    Calls Tryd.prog 62 #[.pointer (some ⟨p, 0, none⟩), .int .i64 (n : Int)] w fun e w' =>
      if n ≤ l.length then ∃ A c, e = .returned (.slice A n c) ∧ n ≤ c ∧ c ≤ 9223372036854775807 ∧ Bytes w' B A (l.take n) ∧ Rd w' B p (l.drop n) ∧ Fr (fun k => k = p) w w' else e = .panicked thrown ∧ w = w' := by
  obtain ⟨hBp, A, c, hB, hl, hc, hc2⟩ := h
  have HBP := Lib.hid hBp
  have hc0 := hB.cell 0
  have hz := hB.frozen 0
  simp at hc0
  obtain ⟨k, hk⟩ : ∃ k, l.length = k := ⟨_, rfl⟩
  rw [hk] at hB hc hc0 ⊢
  have hkc : (k : Int) ≤ (c : Int) := by omega
  have hcc : (c : Int) ≤ 9223372036854775807 := by omega
  by_cases hnk : n ≤ k
  · simp only [hnk, if_true]
    have d1 : decide ((n : Int) ≤ (k : Int)) = true := decide_eq_true (by omega)
    have h0 : (0 : Int) ≤ (n : Int) := by omega
    have h1 : (n : Int) ≤ (k : Int) := by omega
    have h2 : (n : Int) ≤ (c : Int) := by omega
    have HL := Lib.hid (And.intro hl (And.intro hk (And.intro hB (And.intro hc hc2))))
    clear hl hk hB hc hc2
    go_enter Tryd.func62, Tryd.ntmps62
    go_wp2_with fail
    refine (want_ok _).mono ?_
    rintro e w1 ⟨rfl, rfl⟩
    go_wp2_with fail
    · have hf : Fr (fun k => k = p) w (w.setCell ⟨p, 0, none⟩ (.slice A (k - n) 0)) := Fr.setCell (S := fun k => k = p) (w' := w) (Fr.refl _ w) (p := ⟨p, 0, none⟩) (fun _ => rfl) _
      have hb := hf.below (B := B) (Nat.le_trans HBP.out (Nat.le_of_lt HL.out.2.2.1.lt)) (fun k hk => by have := HBP.out; omega)
      go_ret
      have hkn : k = n := by have := HL.out.2.2.2.1; omega
      have hdr : l.drop n = [] := by rw [List.drop_eq_nil_iff]; have := HL.out.2.1; omega
      refine ⟨A, n, rfl, Nat.le_refl _, by omega, (HL.out.1.take n).below hb, ?_, hf⟩
      rw [hdr]
      refine ⟨HBP.out, A, 0, ?_, Bytes.nil, Nat.le_refl _, by omega⟩
      have := HL.out.2.2.1.set_ 0 (.slice A (k - n) 0)
      rw [show k - n = 0 from by omega] at this ⊢
      exact this
    · have hf : Fr (fun k => k = p) w (w.setCell ⟨p, 0, none⟩ (.slice (Option.map (fun x => x.add n) A) (k - n) (c - n))) := Fr.setCell (S := fun k => k = p) (w' := w) (Fr.refl _ w) (p := ⟨p, 0, none⟩) (fun _ => rfl) _
      have hb := hf.below (B := B) (Nat.le_trans HBP.out (Nat.le_of_lt HL.out.2.2.1.lt)) (fun k hk => by have := HBP.out; omega)
      go_ret
      refine ⟨A, n, rfl, Nat.le_refl _, by omega, (HL.out.1.take n).below hb, ⟨HBP.out, _, c - n, ?_, (bytes_dropA HL.out.1 n).below hb, ?_, by omega⟩, hf⟩
      · have := HL.out.2.2.1.set_ 0 (.slice (Option.map (fun x => x.add n) A) (k - n) (c - n))
        rw [List.length_drop, HL.out.2.1]; exact this
      · rw [List.length_drop, HL.out.2.1]; omega
  · simp only [hnk, if_false]
    have d1 : decide ((n : Int) ≤ (k : Int)) = false := decide_eq_false (by omega)
    go_enter Tryd.func62, Tryd.ntmps62
    go_wp2_with fail
    refine (want_no _).mono ?_
    rintro e w1 ⟨rfl, rfl⟩
    go_wp2_with fail
    exact ⟨rfl, rfl, rfl⟩
theorem num_take (l : List UInt8) (j : Nat) (h : j < l.length) : num (l.take (j + 1)) = num (l.take j) * 256 + l[j].toNat := by rw [List.take_succ_eq_append_getElem h, num_snoc]
theorem num_take_lt (l : List UInt8) (j n : Nat) (h : j < l.length) (hn : l.length ≤ n) : num (l.take j) * 256 + l[j].toNat < 256 ^ n := by
  rw [← num_take l j h]
  have h1 := num_lt (l.take (j + 1))
  rw [List.length_take] at h1
  exact Nat.lt_of_lt_of_le h1 (Nat.pow_le_pow_right (by decide) (by omega))
theorem nat_or (x c : Nat) (hc : c < 256) : x * 256 ||| c = x * 256 + c := nat_join 8 (x * 256) c (by omega) hc
theorem or_u64 {x c : Nat} (h : x * 256 + c < 256 ^ 8) (hc : c < 256) (a b : Int) (ha : a = ((x * 256 : Nat) : Int)) (hb : b = (c : Int)) : bits .or .u64 a b = ((x * 256 + c : Nat) : Int) := by
  subst ha; subst hb
  have e : (256 : Nat) ^ 8 = 18446744073709551616 := by decide
  rw [e] at h
  have h1 : x * 256 < 18446744073709551616 := Nat.lt_of_le_of_lt (Nat.le_add_right _ _) h
  have h2 : c < 18446744073709551616 := Nat.lt_of_le_of_lt (Nat.le_add_left _ _) h
  rw [u64_or_nat (x * 256) c h1 h2, nat_or x c hc]
theorem wrap_sgn {n : Nat} (h : n < 256 ^ 8) : wrap64 (n : Int) = sgn n := by
  unfold wrap64 sgn; split <;> omega
theorem sgn_small {n : Nat} (h : n < 9223372036854775808) : sgn n = (n : Int) := by unfold sgn; rw [if_pos h]
/-- The value of a number that was read, as Go has it. -/
theorem number_any (w : World) (B p n : Nat) (l : List UInt8) (h : Rd w B p l) (hn : n ≤ 8) :
    Calls Tryd.prog 35 #[.pointer (some ⟨p, 0, none⟩), .int .i64 (n : Int)] w (RdR w B p ((rnum n l).map fun q => (.int .i64 (sgn q.1), q.2))) := by
  by_cases hnk : n ≤ l.length
  · have hr : rnum n l = some (num (l.take n), l.drop n) := by unfold rnum cut; rw [if_pos hnk]; rfl
    rw [hr]
    have HN := Lib.hid (And.intro hn hnk)
    clear hr
    go_enter Tryd.func35, Tryd.ntmps35
    go_wp2_with fail
    refine (raw_any w B p n l h (by omega)).mono ?_
    rintro e w1 he
    rw [if_pos hnk] at he
    obtain ⟨A, c, rfl, hnc, hcc, hby, hrd, hf⟩ := he
    have HR := Lib.hid (And.intro hrd hf)
    have hlen : (l.take n).length = n := by rw [List.length_take]; omega
    obtain ⟨t, ht⟩ : ∃ t, l.take n = t := ⟨_, rfl⟩
    rw [ht] at hlen hby
    have HT := Lib.hid (And.intro hlen hby)
    have HTT := Lib.hid ht
    clear hrd hf ht hnk hlen hby h
    go_wp2_with fail
    go_loop [5, 12] (fun s i => ∃ j : Nat, i = .int .i64 (j : Int) ∧ s = .int .u64 ((num (t.take j) : Nat) : Int) ∧ j ≤ n) (fun _ i => n - (intOf i).toNat)
    case atStart => exact ⟨0, rfl, rfl, Nat.zero_le _⟩
    case round =>
      obtain ⟨j, rfl, rfl, hj⟩ := hrel
      by_cases hjl : j < n
      · have ja : j < t.length := by have := HT.out.1; omega
        obtain ⟨b, off, rfl, hb, hcell⟩ := HT.out.2.at_ ja
        have h1 : (j : Int) < (n : Int) := by omega
        have h0 : (0 : Int) ≤ (j : Int) := by omega
        obtain ⟨q, hq⟩ : ∃ q, num (t.take j) = q := ⟨_, rfl⟩
        obtain ⟨x, hx⟩ : ∃ x, t[j].toNat = x := ⟨_, rfl⟩
        have hlt := num_take_lt t j 8 ja (by have := HT.out.1; omega)
        have hst := num_take t j ja
        rw [hq, hx] at hlt hst
        rw [hx] at hcell
        rw [hq]
        have HS := Lib.hid (And.intro hlt (And.intro hst (show x < 256 from by rw [← hx]; exact t[j].toNat_lt)))
        clear hlt hst hq hx
        go_wp2_with fail
        go_round
        case rel =>
          refine ⟨j + 1, rfl, ?_, hjl⟩
          rw [HS.out.2.1]
          have e : ∀ x : Int, IntKind.u64.wrap x = x % 18446744073709551616 := fun _ => rfl
          have h3 := HS.out.1
          exact congrArg (Value.int .u64) (or_u64 h3 HS.out.2.2 _ _ (by rw [e]; omega) (by rw [e]; have := HS.out.2.2; omega))
        case measure => simp [intOf]; omega
      · obtain rfl : j = n := by omega
        rw [List.take_of_length_le (by have := HT.out.1; omega)]
        go_wp2_with fail
        go_ret
        refine ⟨HR.out.2, ?_, HR.out.1⟩
        rw [HTT.out]
        refine congrArg (fun x => Ending.returned (.int .i64 x)) (wrap_sgn ?_)
        have h1 := num_lt t
        rw [HT.out.1] at h1
        exact Nat.lt_of_lt_of_le h1 (Nat.pow_le_pow_right (by decide) HN.out.1)
  · have hr : rnum n l = none := by unfold rnum cut; rw [if_neg hnk]; rfl
    rw [hr]
    go_enter Tryd.func35, Tryd.ntmps35
    go_wp2_with fail
    refine (raw_any w B p n l h (by omega)).mono ?_
    rintro e w1 he
    rw [if_neg hnk] at he
    obtain ⟨rfl, rfl⟩ := he
    go_wp2_with fail
    exact ⟨rfl, Fr.refl _ _, rfl⟩
theorem conv_str {w : World} {B : Option Addr} {l : List UInt8} {M : Nat} (h : Bytes w M B l) (n c : Nat) (hn : n = l.length) : (convert 25 9 (.slice B n c)).run Tryd.prog w = .ok (.string (str l)) w := by
  subst hn; exact run_str w 25 5 Tryd.underlying25 Tryd.underlying5 h c 9 Tryd.underlying9
theorem rnum_some {n : Nat} {l : List UInt8} {q : Nat × List UInt8} (h : rnum n l = some q) : q.1 < 256 ^ n ∧ n ≤ l.length ∧ q.1 = num (l.take n) ∧ q.2 = l.drop n := by
  unfold rnum cut at h
  split at h
  · rename_i hn
    injection h with h
    subst h
    have h1 := num_lt (l.take n)
    rw [List.length_take, Nat.min_eq_left hn] at h1
    exact ⟨h1, hn, rfl, rfl⟩
  · cases h
theorem rtext_any (w : World) (B p : Nat) (l : List UInt8) (h : Rd w B p l) :
    Calls Tryd.prog 63 #[.pointer (some ⟨p, 0, none⟩)] w (RdR w B p ((rtxt l).map fun q => (.string (str q.1), q.2))) := by
  unfold rtxt
  cases h1 : rnum 1 l with
  | none =>
    go_enter Tryd.func63, Tryd.ntmps63
    go_wp2_with fail
    refine (number_any w B p 1 l h (by decide)).mono ?_
    rintro e w1 he
    rw [h1] at he
    obtain ⟨hf, rfl⟩ := he
    go_wp2_with fail
    exact ⟨rfl, hf, rfl⟩
  | some q =>
    obtain ⟨n, r⟩ := q
    have hn := (rnum_some h1).1
    dsimp only at hn
    have H1 := Lib.hid h1
    have hsg : sgn n = (n : Int) := sgn_small (by omega)
    clear h1
    go_enter Tryd.func63, Tryd.ntmps63
    go_wp2_with fail
    refine (number_any w B p 1 l h (by decide)).mono ?_
    rintro e w1 he
    rw [H1.out] at he
    obtain ⟨hf, rfl, hr⟩ := he
    dsimp only [Option.map_some] at hr ⊢
    rw [hsg]
    have HF := Lib.hid hf
    clear hf hsg h
    go_wp2_with fail
    refine (raw_any w1 B p n r hr (by omega)).mono ?_
    rintro e w2 he
    by_cases hnr : n ≤ r.length
    · rw [if_pos hnr] at he
      obtain ⟨A, c, rfl, hnc, hcc, hby, hrd, hf2⟩ := he
      have hcv := conv_str hby n c (by rw [List.length_take]; omega)
      have HR := Lib.hid (And.intro hrd (HF.out.trans hf2 fun _ _ h => h))
      have HE := Lib.hid hnr
      clear hrd hf2 hby hr hnr
      go_wp2_with fail
      go_ret
      unfold cut
      rw [Option.bind_some, if_pos HE.out]
      exact ⟨HR.out.2, rfl, HR.out.1⟩
    · rw [if_neg hnr] at he
      obtain ⟨rfl, rfl⟩ := he
      have HE := Lib.hid hnr
      clear hnr
      go_wp2_with fail
      unfold cut
      rw [Option.bind_some, if_neg HE.out]
      exact ⟨rfl, HF.out, rfl⟩
end Go.Proofs.YtebdmfmadbikaaaDoor.WiW
