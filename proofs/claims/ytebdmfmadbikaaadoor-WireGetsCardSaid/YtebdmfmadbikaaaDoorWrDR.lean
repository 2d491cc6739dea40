/- The document's reader: raw, number, text; Number. -/
import Derived.Test.YtebdmfmadbikaaaDoorWrDoc3
namespace Go.Proofs.YtebdmfmadbikaaaDoor.WiW
open Go.RowKit Go.Shelf Mem Fds FdW Wi Rng
set_option linter.unusedVariables false
set_option linter.unusedSimpArgs false

/-- The document's reader at p: the bytes left, which lie below B; or bad. -/
def RdD (w : World) (B p : Nat) (o : Option (List UInt8)) : Prop := B ≤ p ∧ ∃ A n c, Blk w p 80 #[.slice A n c, .bool o.isNone] ∧ ∀ l, o = some l → n = l.length ∧ Bytes w B A l ∧ n ≤ c ∧ c ≤ 9223372036854775807
theorem RdD.keep {w w' : World} {B p : Nat} {o : Option (List UInt8)} (h : RdD w B p o) (hb : Below w.heap.size w w') : RdD w' B p o := by
  obtain ⟨h0, A, n, c, h1, h2⟩ := h
  exact ⟨h0, A, n, c, h1.keep hb, fun l e => ⟨(h2 l e).1, (h2 l e).2.1.below (hb.mono (Nat.le_trans h0 (Nat.le_of_lt h1.lt))), (h2 l e).2.2⟩⟩
theorem RdD.fr {S : Nat → Prop} {w w' : World} {B p : Nat} {o : Option (List UInt8)} (h : RdD w B p o) (hf : Fr S w w') (hS : ∀ k, S k → B ≤ k) (hp : ¬ S p) : RdD w' B p o := by
  obtain ⟨h0, A, n, c, h1, h2⟩ := h
  exact ⟨h0, A, n, c, h1.fr hf hp, fun l e => ⟨(h2 l e).1, (h2 l e).2.1.below (hf.below (Nat.le_trans h0 (Nat.le_of_lt h1.lt)) hS), (h2 l e).2.2⟩⟩
theorem dwrap_step {q c : Nat} (h : q * 256 + c < 256 ^ 8) : IntKind.u64.wrap (IntKind.u64.wrap ((q : Int) * 256) + IntKind.u64.wrap (c : Int)) = ((q * 256 + c : Nat) : Int) := by
  have e : ∀ x : Int, IntKind.u64.wrap x = x % 18446744073709551616 := fun _ => rfl
  simp only [e]
  omega
set_option maxHeartbeats 400000 in
theorem dNumber_any (w : World) (B : Nat) (A : Option Addr) (l : List UInt8) (n c : Nat) (hn : n = l.length) (hlen : n ≤ 8) (hA : Bytes w B A l) :
    Calls Tryd.prog 65 #[.slice A n c] w fun e w' => e = .returned (.int .u64 ((num l : Nat) : Int)) ∧ w = w' := by
  subst hn
  go_enter Tryd.func65, Tryd.ntmps65
  go_wp2_with fail
  go_loop [3, 4] (fun s i => ∃ j : Nat, i = .int .i64 (j : Int) ∧ s = .int .u64 ((num (l.take j) : Nat) : Int) ∧ j ≤ l.length) (fun _ i => l.length - (intOf i).toNat)
  case atStart => exact ⟨0, rfl, rfl, Nat.zero_le _⟩
  case round =>
    obtain ⟨j, rfl, rfl, hj⟩ := hrel
    by_cases hjl : j < l.length
    · have hcell := hA.at_ hjl
      obtain ⟨b, off, rfl, hb, hcell⟩ := hcell
      have h1 : (j : Int) < (l.length : Int) := by omega
      have h0 : (0 : Int) ≤ (j : Int) := by omega
      generalize hq : num (l.take j) = q
      have HQ := Lib.hid hq
      clear hq
      go_wp2_with fail
      go_round
      case rel =>
        refine ⟨j + 1, rfl, congrArg (Value.int .u64) ?_, hjl⟩
        rw [num_take l j hjl, HQ.out]
        exact dwrap_step (by have := num_take_lt l j 8 hjl hlen; rwa [HQ.out] at this)
      case measure => simp [intOf]; omega
    · obtain rfl : j = l.length := by omega
      rw [List.take_length]
      go_wp2_with fail
      go_ret
      exact ⟨rfl, rfl⟩
/-- What raw leaves. -/
def RawR (w : World) (B p n : Nat) (o : Option (List UInt8)) (e : Ending) (w' : World) : Prop := Fr (fun k => k = p) w w' ∧ match o.bind (cut n) with
  | some q => ∃ A, (∃ c, e = .returned (.slice A n c)) ∧ n = q.1.length ∧ Bytes w' B A q.1 ∧ RdD w' B p (some q.2)
  | none => e = .returned (.slice none 0 0) ∧ RdD w' B p none
theorem rdd_bad {w : World} {B p : Nat} {o : Option (List UInt8)} (h : RdD w B p o) : RdD (w.setCell ⟨p, 1, none⟩ (.bool true)) B p none := by
  obtain ⟨h0, A, n, c, h1, _⟩ := h
  exact ⟨h0, A, n, c, h1.set_ 1 (.bool true), fun l e => by cases e⟩
set_option maxHeartbeats 1000000 in
theorem draw_any (w : World) (B p n : Nat) (o : Option (List UInt8)) (h : RdD w B p o) (hn : n ≤ 4294967295) :
    Calls Tryd.prog 64 #[.pointer (some ⟨p, 0, none⟩), .int .i64 (n : Int)] w (RawR w B p n o) := by
  have HR := Lib.hid h
  obtain ⟨hBp, A, k, c, hB, hl⟩ := h
  have HBP := Lib.hid hBp
  have c0 := hB.cell 0
  have c1 := hB.cell 1
  have z0 := hB.frozen 0
  have z1 := hB.frozen 1
  simp at c0 c1
  have hset : Fr (fun k => k = p) w (w.setCell ⟨p, 1, none⟩ (.bool true)) := Fr.setCell (S := fun k => k = p) (w' := w) (Fr.refl _ w) (p := ⟨p, 1, none⟩) (fun _ => rfl) _
  have HSET := Lib.hid hset
  clear hset hBp
  cases o with
  | none =>
    clear hl hB
    dsimp only [Option.isNone_none] at c1
    go_enter Tryd.func64, Tryd.ntmps64
    go_wp2_with fail
    go_ret
    exact ⟨HSET.out, rfl, rdd_bad HR.out⟩
  | some l =>
    obtain ⟨rfl, hb, hkc, hcc⟩ := hl l rfl
    dsimp only [Option.isNone_some] at c1
    unfold RawR
    rw [Option.bind_some]
    obtain ⟨k, hk⟩ : ∃ k, l.length = k := ⟨_, rfl⟩
    have HL := Lib.hid (And.intro hb (And.intro hk hB))
    rw [hk] at c0 hkc
    clear hl hb hB
    unfold cut
    rw [hk]
    by_cases hnk : n ≤ k
    · rw [if_pos hnk]
      have d1 : ¬ k < n := by omega
      have h0 : (0 : Int) ≤ (n : Int) := by omega
      have h1 : (n : Int) ≤ (k : Int) := by omega
      have h2 : (n : Int) ≤ (c : Int) := by omega
      have h3 : (k : Int) ≤ (c : Int) := by omega
      have hcc' : (c : Int) ≤ 9223372036854775807 := by omega
      have HC := Lib.hid (And.intro hkc hcc)
      clear hkc hcc hk
      go_enter Tryd.func64, Tryd.ntmps64
      go_wp2_with fail
      · have hf : Fr (fun k => k = p) w (w.setCell ⟨p, 0, none⟩ (.slice A (k - n) 0)) := Fr.setCell (S := fun k => k = p) (w' := w) (Fr.refl _ w) (p := ⟨p, 0, none⟩) (fun _ => rfl) _
        have hb := hf.below (B := B) (Nat.le_trans HBP.out (Nat.le_of_lt HL.out.2.2.lt)) (fun k hk => by have := HBP.out; omega)
        go_ret
        have hkn : k = n := by have := HC.out; omega
        have hdr : l.drop n = [] := by rw [List.drop_eq_nil_iff]; have := HL.out.2.1; omega
        refine ⟨hf, ?_⟩
        dsimp only
        refine ⟨A, ⟨n, rfl⟩, by have := HL.out.2.1; omega, (HL.out.1.take n).below hb, ?_⟩
        rw [hdr]
        refine ⟨HBP.out, A, 0, 0, ?_, fun l e => ?_⟩
        · have := HL.out.2.2.set_ 0 (.slice A (k - n) 0)
          rw [show k - n = 0 from by omega] at this ⊢
          exact this
        · injection e with e; subst e; exact ⟨rfl, Bytes.nil, Nat.le_refl _, by omega⟩
      · have hf : Fr (fun k => k = p) w (w.setCell ⟨p, 0, none⟩ (.slice (Option.map (fun x => x.add n) A) (k - n) (c - n))) := Fr.setCell (S := fun k => k = p) (w' := w) (Fr.refl _ w) (p := ⟨p, 0, none⟩) (fun _ => rfl) _
        have hb := hf.below (B := B) (Nat.le_trans HBP.out (Nat.le_of_lt HL.out.2.2.lt)) (fun k hk => by have := HBP.out; omega)
        go_ret
        refine ⟨hf, ?_⟩
        dsimp only
        refine ⟨A, ⟨c, rfl⟩, by have := HL.out.2.1; omega, (HL.out.1.take n).below hb, HBP.out, Option.map (fun x => x.add n) A, k - n, c - n, ?_, fun l' e => ?_⟩
        · exact HL.out.2.2.set_ 0 (.slice (Option.map (fun x => x.add n) A) (k - n) (c - n))
        · injection e with e; subst e
          exact ⟨by rw [List.length_drop, HL.out.2.1], (bytes_dropA HL.out.1 n).below hb, by have := HC.out; omega, by have := HC.out; omega⟩
    · rw [if_neg hnk]
      have d1 : k < n := by omega
      clear hk hkc hcc hnk
      go_enter Tryd.func64, Tryd.ntmps64
      go_wp2_with fail
      go_ret
      exact ⟨HSET.out, rfl, rdd_bad HR.out⟩
/-- What number leaves. -/
def NumR (w : World) (B p n : Nat) (o : Option (List UInt8)) (e : Ending) (w' : World) : Prop := Fr (fun k => k = p) w w' ∧ ∃ v, e = .returned (.int .i64 v) ∧ v = ((o.bind (rnum n)).map fun q => sgn q.1).getD 0 ∧ RdD w' B p ((o.bind (rnum n)).map (·.2))
theorem dnumber_any (w : World) (B p n : Nat) (o : Option (List UInt8)) (h : RdD w B p o) (hn : n ≤ 8) :
    Calls Tryd.prog 38 #[.pointer (some ⟨p, 0, none⟩), .int .i64 (n : Int)] w (NumR w B p n o) := by
  have hq : o.bind (rnum n) = (o.bind (cut n)).map fun q => (num q.1, q.2) := by cases o <;> rfl
  have HN := Lib.hid hn
  cases h1 : o.bind (cut n) with
  | none =>
    have H1 := Lib.hid h1
    have HQ := Lib.hid hq
    clear hq h1
    go_enter Tryd.func38, Tryd.ntmps38
    go_wp2_with fail
    refine (draw_any w B p n o h (by omega)).mono ?_
    rintro e w1 ⟨hf, he⟩
    rw [H1.out] at he
    obtain ⟨rfl, hr⟩ := he
    have HR := Lib.hid hr
    have HF := Lib.hid hf
    obtain ⟨_, A, k, c, hB, _⟩ := hr
    have c1 := hB.cell 1
    simp at c1
    clear hB hf
    go_wp2_with fail
    go_ret
    refine ⟨HF.out, 0, rfl, ?_, ?_⟩
    · rw [HQ.out, H1.out]; rfl
    · rw [HQ.out, H1.out]; exact HR.out
  | some q =>
    have H1 := Lib.hid h1
    have HQ := Lib.hid hq
    clear hq h1
    go_enter Tryd.func38, Tryd.ntmps38
    go_wp2_with fail
    refine (draw_any w B p n o h (by omega)).mono ?_
    rintro e w1 ⟨hf, he⟩
    rw [H1.out] at he
    obtain ⟨A, ⟨c, rfl⟩, hl, hb, hr⟩ := he
    have HR := Lib.hid hr
    have HF := Lib.hid hf
    obtain ⟨_, A', k, c', hB, _⟩ := hr
    have c1 := hB.cell 1
    simp at c1
    clear hB hf
    have HL := Lib.hid (And.intro hl hb)
    clear hl hb h
    go_wp2_with fail
    refine (dNumber_any w1 B A q.1 n c HL.out.1 HN.out HL.out.2).mono ?_
    rintro e w2 ⟨rfl, rfl⟩
    go_wp2_with fail
    go_ret
    refine ⟨HF.out, _, rfl, ?_, ?_⟩
    · rw [HQ.out, H1.out]
      refine wrap_sgn ?_
      have h1 := num_lt q.1
      rw [← HL.out.1] at h1
      exact Nat.lt_of_lt_of_le h1 (Nat.pow_le_pow_right (by decide) HN.out)
    · rw [HQ.out, H1.out]; exact HR.out
/-- A text behind its length. -/
def rtx (n : Nat) (l : List UInt8) : Option (List UInt8 × List UInt8) := (rnum n l).bind fun p => cut p.1 p.2
/-- What text leaves. -/
def TxtR (w : World) (B p n : Nat) (o : Option (List UInt8)) (e : Ending) (w' : World) : Prop := Fr (fun k => k = p) w w' ∧ ∃ s, e = .returned (.string (str s)) ∧ s = ((o.bind (rtx n)).map (·.1)).getD [] ∧ RdD w' B p ((o.bind (rtx n)).map (·.2))
theorem dtext_any (w : World) (B p n : Nat) (o : Option (List UInt8)) (h : RdD w B p o) (hn : n ≤ 4) :
    Calls Tryd.prog 39 #[.pointer (some ⟨p, 0, none⟩), .int .i64 (n : Int)] w (TxtR w B p n o) := by
  have hv : ∃ v : Nat, ((o.bind (rnum n)).map fun q => sgn q.1).getD 0 = (v : Int) ∧ v ≤ 4294967295 ∧ o.bind (rtx n) = ((o.bind (rnum n)).map (·.2)).bind (cut v) := by
    cases o with
    | none => exact ⟨0, rfl, by decide, rfl⟩
    | some l =>
      rw [Option.bind_some, Option.bind_some]
      cases h1 : rnum n l with
      | none => exact ⟨0, rfl, by decide, by unfold rtx; rw [h1]; rfl⟩
      | some q =>
        have hq := (rnum_some h1).1
        have hp : 256 ^ n ≤ 256 ^ 4 := Nat.pow_le_pow_right (by decide) hn
        have hq4 : q.1 < 4294967296 := Nat.lt_of_lt_of_le hq hp
        exact ⟨q.1, sgn_small (by omega), by omega, by unfold rtx; rw [h1]; rfl⟩
  obtain ⟨v, hv, hv4, hx⟩ := hv
  have HV := Lib.hid hv4
  have HX := Lib.hid hx
  have HVV := Lib.hid hv
  clear hv hx hv4
  go_enter Tryd.func39, Tryd.ntmps39
  go_wp2_with fail
  refine (dnumber_any w B p n o h (by omega)).mono ?_
  rintro e w1 ⟨hf, v1, rfl, hv1, hr⟩
  rw [HVV.out] at hv1
  subst hv1
  have HF := Lib.hid hf
  clear hf h
  go_wp2_with fail
  refine (draw_any w1 B p v _ hr HV.out).mono ?_
  rintro e w2 ⟨hf2, he⟩
  have HF2 := Lib.hid (HF.out.trans hf2 fun _ _ h => h)
  rw [← HX.out] at he
  clear hf2 hr
  cases h2 : o.bind (rtx n) with
  | none =>
    rw [h2] at he
    obtain ⟨rfl, hr2⟩ := he
    have hcv := conv_str (w := w2) (B := none) (l := []) (M := 0) Bytes.nil 0 0 rfl
    have H2 := Lib.hid h2
    have HR := Lib.hid hr2
    clear h2 hr2
    go_wp2_with fail
    go_ret
    refine ⟨HF2.out, [], rfl, ?_, ?_⟩
    · rw [H2.out]; rfl
    · rw [H2.out]; exact HR.out
  | some q =>
    rw [h2] at he
    obtain ⟨A, ⟨c, rfl⟩, hl, hb, hr2⟩ := he
    have hcv := conv_str hb v c hl
    have H2 := Lib.hid h2
    have HR := Lib.hid hr2
    clear h2 hr2 hl hb
    go_wp2_with fail
    go_ret
    refine ⟨HF2.out, q.1, rfl, ?_, ?_⟩
    · rw [H2.out]; rfl
    · rw [H2.out]; exact HR.out
end Go.Proofs.YtebdmfmadbikaaaDoor.WiW
