/- Texts of a claim, one behind another. -/
import Derived.Test.YtebdmfmadbikaaaDoorSq
import Derived.Test.YtebdmfmadbikaaaDoorQLawWireKnown1
import Derived.Test.YtebdmfmadbikaaaDoorWrGetF
import Derived.Test.YtebdmfmadbikaaaDoorAppK
import Derived.Test.YtebdmfmadbikaaaDoorHeldG
import Derived.Test.YtebdmfmadbikaaaDoorPan
import Derived.Test.YtebdmfmadbikaaaDoorWrGet
import Derived.Test.YtebdmfmadbikaaaDoorWpAt
import Derived.Test.YtebdmfmadbikaaaDoorWb
/- The document's reader: raw, number, text; Number. -/
namespace Go.Proofs.YtebdmfmadbikaaaDoor.WiW
open Go.RowKit Go.Shelf Mem Fds FdW Wi Rng
set_option linter.unusedVariables false
set_option linter.unusedSimpArgs false

/-- The document's reader at p: the bytes left, which lie below B; or bad. -/
def RdD (w : World) (B p : Nat) (o : Option (List UInt8)) : Prop := B ≤ p ∧ ∃ A n c, Blk w p 80 #[.slice A n c, .bool o.isNone] ∧ ∀ l, o = some l → n = l.length ∧ Bytes w B A l ∧ n ≤ c ∧ c ≤ 9223372036854775807
theorem RdD.keep {w w' : World} {B p : Nat} {o : Option (List UInt8)} (h : RdD w B p o) (hb : Below w.heap.size w w') : RdD w' B p o := by
  obtain ⟨h0, A, n, c, h1, h2⟩ := h
  exact ⟨h0, A, n, c, h1.keep hb, fun l e => ⟨(h2 l e).1, (h2 l e).2.1.below (hb.mono (Nat.le_trans h0 (Nat.le_of_lt h1.lt))), (h2 l e).2.2⟩⟩
theorem RdD.fr {S : Nat → Prop} {w w' : World} {B p : Nat} {o : Option (List UInt8)} (h : RdD w B p o) (hf : Fr S w w') (hS : ∀ k, S k → B ≤ k) (hp : ¬ S p) : RdD w' B p o := by
  obtain ⟨h0, A, n, c, h1, h2⟩ := h
  exact ⟨h0, A, n, c, h1.fr hf hp, fun l e => ⟨(h2 l e).1, (h2 l e).2.1.below (hf.below (Nat.le_trans h0 (Nat.le_of_lt h1.lt)) hS), (h2 l e).2.2⟩⟩
theorem dwrap_step {q c : Nat} (h : q * 256 + c < 256 ^ 8) : IntKind.u64.wrap (IntKind.u64.wrap ((q : Int) * 256) + IntKind.u64.wrap (c : Int)) = ((q * 256 + c : Nat) : Int) := by
  have e : ∀ x : Int, IntKind.u64.wrap x = x % 18446744073709551616 := fun _ => rfl
  simp only [e]
  omega
set_option maxHeartbeats 400000 in
theorem dNumber_any (w : World) (B : Nat) (A : Option Addr) (l : List UInt8) (n c : Nat) (hn : n = l.length) (hlen : n ≤ 8) (hA : Bytes w B A l) :
    Calls Tryd.prog 65 #[.slice A n c] w fun e w' => e = .returned (.int .u64 ((num l : Nat) : Int)) ∧ w = w' := by
  subst hn
  go_enter Tryd.func65, Tryd.ntmps65
  go_wp2_with fail
  go_loop [3, 4] (fun s i => ∃ j : Nat, i = .int .i64 (j : Int) ∧ s = .int .u64 ((num (l.take j) : Nat) : Int) ∧ j ≤ l.length) (fun _ i => l.length - (intOf i).toNat)
  case atStart => exact ⟨0, rfl, rfl, Nat.zero_le _⟩
  case round =>
    obtain ⟨j, rfl, rfl, hj⟩ := hrel
    by_cases hjl : j < l.length
    · have hcell := hA.at_ hjl
      obtain ⟨b, off, rfl, hb, hcell⟩ := hcell
      have h1 : (j : Int) < (l.length : Int) := by omega
      have h0 : (0 : Int) ≤ (j : Int) := by omega
      generalize hq : num (l.take j) = q
      have HQ := Lib.hid hq
      clear hq
      go_wp2_with fail
      go_round
      case rel =>
        refine ⟨j + 1, rfl, congrArg (Value.int .u64) ?_, hjl⟩
        rw [num_take l j hjl, HQ.out]
        exact dwrap_step (by have := num_take_lt l j 8 hjl hlen; rwa [HQ.out] at this)
      case measure => simp [intOf]; omega
    · obtain rfl : j = l.length := by omega
      rw [List.take_length]
      go_wp2_with fail
      go_ret
      exact ⟨rfl, rfl⟩
/-- What raw leaves. -/
def RawR (w : World) (B p n : Nat) (o : Option (List UInt8)) (e : Ending) (w' : World) : Prop := Fr (fun k => k = p) w w' ∧ match o.bind (cut n) with
  | some q => ∃ A, (∃ c, e = .returned (.slice A n c)) ∧ n = q.1.length ∧ Bytes w' B A q.1 ∧ RdD w' B p (some q.2)
  | none => e = .returned (.slice none 0 0) ∧ RdD w' B p none
theorem rdd_bad {w : World} {B p : Nat} {o : Option (List UInt8)} (h : RdD w B p o) : RdD (w.setCell ⟨p, 1, none⟩ (.bool true)) B p none := by
  obtain ⟨h0, A, n, c, h1, _⟩ := h
  exact ⟨h0, A, n, c, h1.set_ 1 (.bool true), fun l e => by cases e⟩
set_option maxHeartbeats 1000000 in
theorem draw_any (w : World) (B p n : Nat) (o : Option (List UInt8)) (h : RdD w B p o) (hn : n ≤ 4294967295) :
    Calls Tryd.prog 64 #[.pointer (some ⟨p, 0, none⟩), .int .i64 (n : Int)] w (RawR w B p n o) := by
  have HR := Lib.hid h
  obtain ⟨hBp, A, k, c, hB, hl⟩ := h
  have HBP := Lib.hid hBp
  have c0 := hB.cell 0
  have c1 := hB.cell 1
  have z0 := hB.frozen 0
  have z1 := hB.frozen 1
  simp at c0 c1
  have hset : Fr (fun k => k = p) w (w.setCell ⟨p, 1, none⟩ (.bool true)) := Fr.setCell (S := fun k => k = p) (w' := w) (Fr.refl _ w) (p := ⟨p, 1, none⟩) (fun _ => rfl) _
  have HSET := Lib.hid hset
  clear hset hBp
  cases o with
  | none =>
    clear hl hB
    dsimp only [Option.isNone_none] at c1
    go_enter Tryd.func64, Tryd.ntmps64
    go_wp2_with fail
    go_ret
    exact ⟨HSET.out, rfl, rdd_bad HR.out⟩
  | some l =>
    obtain ⟨rfl, hb, hkc, hcc⟩ := hl l rfl
    dsimp only [Option.isNone_some] at c1
    unfold RawR
    rw [Option.bind_some]
    obtain ⟨k, hk⟩ : ∃ k, l.length = k := ⟨_, rfl⟩
    have HL := Lib.hid (And.intro hb (And.intro hk hB))
    rw [hk] at c0 hkc
    clear hl hb hB
    unfold cut
    rw [hk]
    by_cases hnk : n ≤ k
    · rw [if_pos hnk]
      have d1 : ¬ k < n := by omega
      have h0 : (0 : Int) ≤ (n : Int) := by omega
      have h1 : (n : Int) ≤ (k : Int) := by omega
      have h2 : (n : Int) ≤ (c : Int) := by omega
      have h3 : (k : Int) ≤ (c : Int) := by omega
      have hcc' : (c : Int) ≤ 9223372036854775807 := by omega
      have HC := Lib.hid (And.intro hkc hcc)
      clear hkc hcc hk
      go_enter Tryd.func64, Tryd.ntmps64
      go_wp2_with fail
      · have hf : Fr (fun k => k = p) w (w.setCell ⟨p, 0, none⟩ (.slice A (k - n) 0)) := Fr.setCell (S := fun k => k = p) (w' := w) (Fr.refl _ w) (p := ⟨p, 0, none⟩) (fun _ => rfl) _
        have hb := hf.below (B := B) (Nat.le_trans HBP.out (Nat.le_of_lt HL.out.2.2.lt)) (fun k hk => by have := HBP.out; omega)
        go_ret
        have hkn : k = n := by have := HC.out; omega
        have hdr : l.drop n = [] := by rw [List.drop_eq_nil_iff]; have := HL.out.2.1; omega
        refine ⟨hf, ?_⟩
        dsimp only
        refine ⟨A, ⟨n, rfl⟩, by have := HL.out.2.1; omega, (HL.out.1.take n).below hb, ?_⟩
        rw [hdr]
        refine ⟨HBP.out, A, 0, 0, ?_, fun l e => ?_⟩
        · have := HL.out.2.2.set_ 0 (.slice A (k - n) 0)
          rw [show k - n = 0 from by omega] at this ⊢
          exact this
        · injection e with e; subst e; exact ⟨rfl, Bytes.nil, Nat.le_refl _, by omega⟩
      · have hf : Fr (fun k => k = p) w (w.setCell ⟨p, 0, none⟩ (.slice (Option.map (fun x => x.add n) A) (k - n) (c - n))) := Fr.setCell (S := fun k => k = p) (w' := w) (Fr.refl _ w) (p := ⟨p, 0, none⟩) (fun _ => rfl) _
        have hb := hf.below (B := B) (Nat.le_trans HBP.out (Nat.le_of_lt HL.out.2.2.lt)) (fun k hk => by have := HBP.out; omega)
        go_ret
        refine ⟨hf, ?_⟩
        dsimp only
        refine ⟨A, ⟨c, rfl⟩, by have := HL.out.2.1; omega, (HL.out.1.take n).below hb, HBP.out, Option.map (fun x => x.add n) A, k - n, c - n, ?_, fun l' e => ?_⟩
        · exact HL.out.2.2.set_ 0 (.slice (Option.map (fun x => x.add n) A) (k - n) (c - n))
        · injection e with e; subst e
          exact ⟨by rw [List.length_drop, HL.out.2.1], (bytes_dropA HL.out.1 n).below hb, by have := HC.out; omega, by have := HC.out; omega⟩
    · rw [if_neg hnk]
      have d1 : k < n := by omega
      clear hk hkc hcc hnk
      go_enter Tryd.func64, Tryd.ntmps64
      go_wp2_with fail
      go_ret
      exact ⟨HSET.out, rfl, rdd_bad HR.out⟩
/-- What number leaves. -/
def NumR (w : World) (B p n : Nat) (o : Option (List UInt8)) (e : Ending) (w' : World) : Prop := Fr (fun k => k = p) w w' ∧ ∃ v, e = .returned (.int .i64 v) ∧ v = ((o.bind (rnum n)).map fun q => sgn q.1).getD 0 ∧ RdD w' B p ((o.bind (rnum n)).map (·.2))
theorem dnumber_any (w : World) (B p n : Nat) (o : Option (List UInt8)) (h : RdD w B p o) (hn : n ≤ 8) :
    Calls Tryd.prog 38 #[.pointer (some ⟨p, 0, none⟩), .int .i64 (n : Int)] w (NumR w B p n o) := by
  have hq : o.bind (rnum n) = (o.bind (cut n)).map fun q => (num q.1, q.2) := by cases o <;> rfl
  have HN := Lib.hid hn
  cases h1 : o.bind (cut n) with
  | none =>
    have H1 := Lib.hid h1
    have HQ := Lib.hid hq
    clear hq h1
    go_enter Tryd.func38, Tryd.ntmps38
    go_wp2_with fail
    refine (draw_any w B p n o h (by omega)).mono ?_
    rintro e w1 ⟨hf, he⟩
    rw [H1.out] at he
    obtain ⟨rfl, hr⟩ := he
    have HR := Lib.hid hr
    have HF := Lib.hid hf
    obtain ⟨_, A, k, c, hB, _⟩ := hr
    have c1 := hB.cell 1
    simp at c1
    clear hB hf
    go_wp2_with fail
    go_ret
    refine ⟨HF.out, 0, rfl, ?_, ?_⟩
    · rw [HQ.out, H1.out]; rfl
    · rw [HQ.out, H1.out]; exact HR.out
  | some q =>
    have H1 := Lib.hid h1
    have HQ := Lib.hid hq
    clear hq h1
    go_enter Tryd.func38, Tryd.ntmps38
    go_wp2_with fail
    refine (draw_any w B p n o h (by omega)).mono ?_
    rintro e w1 ⟨hf, he⟩
    rw [H1.out] at he
    obtain ⟨A, ⟨c, rfl⟩, hl, hb, hr⟩ := he
    have HR := Lib.hid hr
    have HF := Lib.hid hf
    obtain ⟨_, A', k, c', hB, _⟩ := hr
    have c1 := hB.cell 1
    simp at c1
    clear hB hf
    have HL := Lib.hid (And.intro hl hb)
    clear hl hb h
    go_wp2_with fail
    refine (dNumber_any w1 B A q.1 n c HL.out.1 HN.out HL.out.2).mono ?_
    rintro e w2 ⟨rfl, rfl⟩
    go_wp2_with fail
    go_ret
    refine ⟨HF.out, _, rfl, ?_, ?_⟩
    · rw [HQ.out, H1.out]
      refine wrap_sgn ?_
      have h1 := num_lt q.1
      rw [← HL.out.1] at h1
      exact Nat.lt_of_lt_of_le h1 (Nat.pow_le_pow_right (by decide) HN.out)
    · rw [HQ.out, H1.out]; exact HR.out
/-- A text behind its length. -/
def rtx (n : Nat) (l : List UInt8) : Option (List UInt8 × List UInt8) := (rnum n l).bind fun p => cut p.1 p.2
/-- What text leaves. -/
def TxtR (w : World) (B p n : Nat) (o : Option (List UInt8)) (e : Ending) (w' : World) : Prop := Fr (fun k => k = p) w w' ∧ ∃ s, e = .returned (.string (str s)) ∧ s = ((o.bind (rtx n)).map (·.1)).getD [] ∧ RdD w' B p ((o.bind (rtx n)).map (·.2))
theorem dtext_any (w : World) (B p n : Nat) (o : Option (List UInt8)) (h : RdD w B p o) (hn : n ≤ 4) :
    Calls Tryd.prog 39 #[.pointer (some ⟨p, 0, none⟩), .int .i64 (n : Int)] w (TxtR w B p n o) := by
  have hv : ∃ v : Nat, ((o.bind (rnum n)).map fun q => sgn q.1).getD 0 = (v : Int) ∧ v ≤ 4294967295 ∧ o.bind (rtx n) = ((o.bind (rnum n)).map (·.2)).bind (cut v) := by
    cases o with
    | none => exact ⟨0, rfl, by decide, rfl⟩
    | some l =>
      rw [Option.bind_some, Option.bind_some]
      cases h1 : rnum n l with
      | none => exact ⟨0, rfl, by decide, by unfold rtx; rw [h1]; rfl⟩
      | some q =>
        have hq := (rnum_some h1).1
        have hp : 256 ^ n ≤ 256 ^ 4 := Nat.pow_le_pow_right (by decide) hn
        have hq4 : q.1 < 4294967296 := Nat.lt_of_lt_of_le hq hp
        exact ⟨q.1, sgn_small (by omega), by omega, by unfold rtx; rw [h1]; rfl⟩
  obtain ⟨v, hv, hv4, hx⟩ := hv
  have HV := Lib.hid hv4
  have HX := Lib.hid hx
  have HVV := Lib.hid hv
  clear hv hx hv4
  go_enter Tryd.func39, Tryd.ntmps39
  go_wp2_with fail
  refine (dnumber_any w B p n o h (by omega)).mono ?_
  rintro e w1 ⟨hf, v1, rfl, hv1, hr⟩
  rw [HVV.out] at hv1
  subst hv1
  have HF := Lib.hid hf
  clear hf h
  go_wp2_with fail
  refine (draw_any w1 B p v _ hr HV.out).mono ?_
  rintro e w2 ⟨hf2, he⟩
  have HF2 := Lib.hid (HF.out.trans hf2 fun _ _ h => h)
  rw [← HX.out] at he
  clear hf2 hr
  cases h2 : o.bind (rtx n) with
  | none =>
    rw [h2] at he
    obtain ⟨rfl, hr2⟩ := he
    have hcv := conv_str (w := w2) (B := none) (l := []) (M := 0) Bytes.nil 0 0 rfl
    have H2 := Lib.hid h2
    have HR := Lib.hid hr2
    clear h2 hr2
    go_wp2_with fail
    go_ret
    refine ⟨HF2.out, [], rfl, ?_, ?_⟩
    · rw [H2.out]; rfl
    · rw [H2.out]; exact HR.out
  | some q =>
    rw [h2] at he
    obtain ⟨A, ⟨c, rfl⟩, hl, hb, hr2⟩ := he
    have hcv := conv_str hb v c hl
    have H2 := Lib.hid h2
    have HR := Lib.hid hr2
    clear h2 hr2 hl hb
    go_wp2_with fail
    go_ret
    refine ⟨HF2.out, q.1, rfl, ?_, ?_⟩
    · rw [H2.out]; rfl
    · rw [H2.out]; exact HR.out
end Go.Proofs.YtebdmfmadbikaaaDoor.WiW
/- Package wire's get: the fields of many cells, and any field. Printed by genwgl.py (raw numbers of the seat). -/
namespace Go.Proofs.YtebdmfmadbikaaaDoor.WiW
open Go.RowKit Go.Shelf Mem Fds FdW Wi Rng
set_option linter.unusedVariables false
set_option linter.unusedSimpArgs false

theorem iinfo9 : (Tryd.prog.info? 3).map (fun i => (i.zero, i.size, i.bytes)) = some (some (.int .i64 0), 1, 8) := by kernel_rfl
theorem idinfo9 : (Tryd.prog.info? 50).map (fun i => (i.zero, i.size, i.bytes)) = some (some (.agg #[.string (str []), .int .i64 0]), 2, 24) := by kernel_rfl
theorem blk_ne_ownK {w : World} {g : Nat} {T : TypeId} {cs : Array Value} (h : Blk w g T cs) {base' K n c' : Nat} {T' : TypeId} {A' : Option Addr} {ys : List Value} (ho : OwnK w base' T' K A' n c' ys) (hT : T ≠ T') : A' ≠ some ⟨g, 0, none⟩ := by
  intro e1
  subst e1
  have h' : w.heap[g]? = some (.cells cs T (0, 0)) := h
  rcases ho.2 with ⟨hv, _⟩ | ⟨g2, cap, cur, hv, _, hh, _⟩
  · injection hv with hv; cases hv
  · injection hv with hv _ _
    injection hv with hv; injection hv with hv
    subst hv
    rw [h'] at hh
    injection hh with hh; injection hh with _ hh
    exact hT hh
/-- A message's rows, in blocks from B on. -/
def RowsO (w : World) (B : Nat) (m : Msg) (s : Sl) : Prop := OwnK w B 50 2 s.ia m.ids.length s.ic (m.ids.flatMap dc) ∧ Mem.Own w B 3 s.na s.nc (m.nodes.map iv) ∧ Mem.Own w B 5 s.da s.dk (m.data.map u8v)
theorem RowsO.fr {S : Nat → Prop} {w w' : World} {B : Nat} {m : Msg} {s : Sl} (h : RowsO w B m s) (hf : Fr S w w') (hS : ∀ k, S k → (∀ n A c xs, Mem.OwnK w B 50 2 A n c xs → ∀ g, A = some ⟨g, 0, none⟩ → g ≠ k) ∧ (∀ A c xs T, T = 3 ∨ T = 5 → Mem.Own w B T A c xs → ∀ g, A = some ⟨g, 0, none⟩ → g ≠ k)) : RowsO w' B m s :=
  ⟨h.1.fr hf fun g hg hs => (hS g hs).1 _ _ _ _ h.1 g hg rfl, h.2.1.fr hf fun g hg hs => (hS g hs).2 _ _ _ _ (.inl rfl) h.2.1 g hg rfl, h.2.2.fr hf fun g hg hs => (hS g hs).2 _ _ _ _ (.inr rfl) h.2.2 g hg rfl⟩
/-- Blocks of other types may turn. -/
theorem RowsO.frT {w w' : World} {B B2 p q : Nat} {m m2 : Msg} {s s2 : Sl} {l : List UInt8} (h : RowsO w B2 m s) (hr : Rd w B p l) (hq : Blk w q 27 (mv m2 s2)) (hf : Fr (fun k => k = p ∨ k = q) w w') : RowsO w' B2 m s := by
  obtain ⟨_, A, c, hp, _⟩ := hr
  refine h.fr hf fun k hk => ⟨fun n A c xs ho g hg e => ?_, fun A c xs T hT ho g hg e => ?_⟩
  · subst e
    rcases hk with rfl | rfl
    · exact blk_ne_ownK hp ho (by decide) hg
    · exact blk_ne_ownK hq ho (by decide) hg
  · subst e
    rcases hk with rfl | rfl
    · exact hp.ne_own ho (by rcases hT with rfl | rfl <;> decide) _ hg rfl
    · exact hq.ne_own ho (by rcases hT with rfl | rfl <;> decide) _ hg rfl
/-- What get leaves of any field: the message at q with its rows, the reader at p. -/
def Kept (f : Nat) (s s' : Sl) : Prop := (f ≠ 8 → s'.ia = s.ia ∧ s'.ic = s.ic) ∧ (f ≠ 9 → s'.na = s.na ∧ s'.nc = s.nc) ∧ (f ≠ 10 → s'.da = s.da ∧ s'.dk = s.dk)
def Fresh (f : Nat) (m : Msg) (s : Sl) : Prop := (f = 8 → m.ids = [] ∧ s.ia = none ∧ s.ic = 0) ∧ (f = 9 → m.nodes = [] ∧ s.na = none ∧ s.nc = 0) ∧ (f = 10 → m.data = [] ∧ s.da = none ∧ s.dk = 0)
def GetR (w : World) (B B2 p q f : Nat) (s : Sl) (o : Option (Msg × List UInt8)) (e : Ending) (w' : World) : Prop :=
  Fr (fun k => k = p ∨ k = q) w w' ∧ match o with
    | some x => e = .returned (.tuple #[]) ∧ Rd w' B p x.2 ∧ ∃ s', Blk w' q 27 (mv x.1 s') ∧ RowsO w' B2 x.1 s' ∧ Kept f s s'
    | none => e = .panicked thrown ∧ ∃ m' s', Blk w' q 27 (mv m' s')
theorem rnodes_snoc : ∀ (j : Nat) (l : List UInt8), rnodes (j + 1) l = (rnodes j l).bind fun p => (rnum 2 p.2).map fun q => (p.1 ++ [(q.1 : Int)], q.2)
  | 0, l => by
    simp only [rnodes, Option.bind_some]
    cases rnum 2 l <;> rfl
  | j + 1, l => by
    show (rnum 2 l).bind (fun p => (rnodes (j + 1) p.2).map fun q => ((p.1 : Int) :: q.1, q.2)) = ((rnum 2 l).bind (fun p => (rnodes j p.2).map fun q => ((p.1 : Int) :: q.1, q.2))).bind _
    cases rnum 2 l with
    | none => rfl
    | some x =>
      simp only [Option.bind_some]
      rw [rnodes_snoc j x.2]
      cases rnodes j x.2 with
      | none => rfl
      | some y =>
        simp only [Option.bind_some, Option.map_some]
        cases rnum 2 y.2 <;> rfl
theorem rids_snoc : ∀ (j : Nat) (l : List UInt8), rids (j + 1) l = (rids j l).bind fun p => (rid p.2).map fun q => (p.1 ++ [q.1], q.2)
  | 0, l => by
    simp only [rids, Option.bind_some]
    cases rid l <;> rfl
  | j + 1, l => by
    show (rid l).bind (fun p => (rids (j + 1) p.2).map fun q => (p.1 :: q.1, q.2)) = ((rid l).bind (fun p => (rids j p.2).map fun q => (p.1 :: q.1, q.2))).bind _
    cases rid l with
    | none => rfl
    | some x =>
      simp only [Option.bind_some]
      rw [rids_snoc j x.2]
      cases rids j x.2 with
      | none => rfl
      | some y =>
        simp only [Option.bind_some, Option.map_some]
        cases rid y.2 <;> rfl
theorem rnodes_none {j : Nat} {l : List UInt8} (h : rnodes j l = none) : ∀ n, j ≤ n → rnodes n l = none := fun n hn => by
  induction hn with
  | refl => exact h
  | step _ ih => rw [rnodes_snoc, ih]; rfl
theorem rids_none {j : Nat} {l : List UInt8} (h : rids j l = none) : ∀ n, j ≤ n → rids n l = none := fun n hn => by
  induction hn with
  | refl => exact h
  | step _ ih => rw [rids_snoc, ih]; rfl
theorem rnodes_len : ∀ {j : Nat} {l : List UInt8} {x : List Int × List UInt8}, rnodes j l = some x → x.1.length = j
  | 0, l, x, h => by injection h with h; subst h; rfl
  | j + 1, l, x, h => by
    rw [rnodes_snoc, Option.bind_eq_some_iff] at h
    obtain ⟨y, h1, h2⟩ := h
    rw [Option.map_eq_some_iff] at h2
    obtain ⟨z, _, rfl⟩ := h2
    simp [rnodes_len h1]
theorem rids_len : ∀ {j : Nat} {l : List UInt8} {x : List (List UInt8 × Int) × List UInt8}, rids j l = some x → x.1.length = j
  | 0, l, x, h => by injection h with h; subst h; rfl
  | j + 1, l, x, h => by
    rw [rids_snoc, Option.bind_eq_some_iff] at h
    obtain ⟨y, h1, h2⟩ := h
    rw [Option.map_eq_some_iff] at h2
    obtain ⟨z, _, rfl⟩ := h2
    simp [rids_len h1]
/-- The loops' states. -/
def NI (w : World) (B p q : Nat) (m : Msg) (s : Sl) (l : List UInt8) (j : Nat) (wr : World) : Prop := ∃ xs r A c, rnodes j l = some (xs, r) ∧ Rd wr B p r ∧ Blk wr q 27 (mv { m with nodes := xs } { s with na := A, nc := c }) ∧ Mem.Own wr w.heap.size 3 A c (xs.map iv) ∧ Fr (fun k => k = p ∨ k = q) w wr
def DI (w : World) (B p q : Nat) (m : Msg) (s : Sl) (l : List UInt8) (j : Nat) (wr : World) : Prop := ∃ xs r A c, rids j l = some (xs, r) ∧ Rd wr B p r ∧ Blk wr q 27 (mv { m with ids := xs } { s with ia := A, ic := c }) ∧ OwnK wr w.heap.size 50 2 A xs.length c (xs.flatMap dc) ∧ Fr (fun k => k = p ∨ k = q) w wr
set_option maxRecDepth 100000 in
set_option maxHeartbeats 8000000 in
theorem get9_any (w : World) (B B2 p q : Nat) (m : Msg) (s : Sl) (l : List UInt8) (h : Rd w B p l) (hB : Blk w q 27 (mv m s)) (hR : RowsO w B2 m s) (hB2 : B2 ≤ w.heap.size) (hq : B ≤ q ∧ q ≠ p) (hf : m.nodes = [] ∧ s.na = none ∧ s.nc = 0) :
    Calls Tryd.prog 36 #[.pointer (some ⟨p, 0, none⟩), .int .u16 (bit 9), .pointer (some ⟨q, 0, none⟩)] w (GetR w B B2 p q 9 s (rf m l 9)) := by
  rw [show bit 9 = 512 from rfl]
  have HQ := Lib.hid (And.intro hq hB)
  have HRO := Lib.hid (And.intro hR (And.intro hf h))
  have HB2 := Lib.hid hB2
  clear hB2
  have hrf : rf m l 9 = (rnum 1 l).bind fun p => (rnodes p.1 p.2).map fun q => ({ m with nodes := m.nodes ++ q.1 }, q.2) := rfl
  rw [hrf]
  rw [hf.1]
  have hmv : mv m s = mv { m with nodes := [] } { s with na := none, nc := 0 } := by unfold mv; simp [hf.1, hf.2.1, hf.2.2]
  have HMV := Lib.hid hmv
  clear hq hB hR hf hrf hmv
  cases h1 : rnum 1 l with
  | none =>
    have H1 := Lib.hid h1
    clear h1
    go_enter Tryd.func36, Tryd.ntmps36
    go_wp2_with fail
    refine (number_any w B p 1 l h (by decide)).mono ?_
    rintro e w1 he
    rw [H1.out] at he
    obtain ⟨hf, rfl⟩ := he
    have HF := Lib.hid hf
    clear hf
    go_wp2_with fail
    exact ⟨rfl, HF.out.mono fun k _ h => .inl h, rfl, _, _, HQ.out.2.fr HF.out HQ.out.1.2⟩
  | some x =>
    obtain ⟨n, r⟩ := x
    have hn := (rnum_some h1).1
    dsimp only at hn
    have HSG := Lib.hid (show sgn n = (n : Int) from sgn_small (by omega))
    have HN := Lib.hid (show n < 256 by omega)
    have H1 := Lib.hid h1
    clear h1 hn
    rw [Option.bind_some]
    dsimp only
    go_enter Tryd.func36, Tryd.ntmps36
    go_wp2_with fail
    refine (number_any w B p 1 l h (by decide)).mono ?_
    rintro e w1 he
    rw [H1.out] at he
    obtain ⟨hf, rfl, hrd⟩ := he
    dsimp only [Option.map_some] at hrd ⊢
    rw [HSG.out]
    have HS := Lib.hid (show NI w B p q m s r 0 w1 from ⟨[], r, none, 0, rfl, hrd, by have := HQ.out.2.fr hf HQ.out.1.2; rw [HMV.out] at this; exact this, Own.nil, hf.mono fun k _ h => .inl h⟩)
    have HW1 := Lib.hid hf.size
    clear hf hrd h
    have hn0 : (0 : Int) ≤ (n : Int) := by omega
    have hn1 : (n : Int) ≤ 255 := by have := HN.out; omega
    go_wp2_with fail
    go_loopw [95] (fun i wr => ∃ j : Nat, i = .int .i64 (j : Int) ∧ j ≤ n ∧ NI w B p q m s r j wr) (fun i _ => n - (intOf i).toNat)
    case atStart => exact ⟨0, rfl, Nat.zero_le _, HS.out⟩
    case round =>
      clear HS
      obtain ⟨j, rfl, hj, hI⟩ := hrel
      have HI := Lib.hid hI
      by_cases hjn : j < n
      · obtain ⟨xs, r1, A, c, g1, g2, g3, g4, g5⟩ := hI
        have hxl := rnodes_len g1
        dsimp only at hxl
        have c12 := g3.cell 12
        simp [mv] at c12
        rw [hxl] at c12
        have HX := Lib.hid (And.intro g1 (And.intro g2 (And.intro g3 (And.intro g4 g5))))
        have HXL := Lib.hid hxl
        have HJ := Lib.hid (And.intro hjn c12)
        have h1 : (j : Int) < (n : Int) := by omega
        have h0 : (0 : Int) ≤ (j : Int) := by omega
        clear g1 g2 g3 g4 g5 hxl c12
        go_wp2_with fail
        refine wp_region_pan [] (fun ch V => ch = thrown ∧ rnodes (j + 1) r = none ∧ Fr (fun k => k = p ∨ k = q) w V ∧ ∃ m' s', Blk V q 27 (mv m' s')) (fun ch a' w' hd hp => ?pan) ?_
        case pan =>
          obtain ⟨rfl, hnn, hff, hbb⟩ := hp
          go_wp2_with fail
          rw [rnodes_none hnn n HJ.out.1]
          exact ⟨hd, hff, rfl, hbb⟩
        refine wp_heldG (fun V => V.cell? ⟨q, 12, none⟩ = some (.slice A j c)) [11] (by kernel_rfl) ?hs0 ?rg0
        case hs0 =>
          exact HJ.out.2
        case rg0 =>
        intro hHeld
        refine puG 0 ⟨some 97, .move (.tmp 2), 76, _, #[], none⟩ (v := ?_) ?_ (fun _ => by assumption) ?_
        rotate_left
        · intro w hSw
          try dsimp only at hSw
          go_simp
          try with_reducible rfl
        try simp only [Act.put, List.setIfInBounds_toArray, List.set_cons_zero, List.set_cons_succ]
        refine puG 1 ⟨some 98, .move (.tmp 2), 76, _, #[], none⟩ (v := ?_) ?_ (fun _ => by assumption) ?_
        rotate_left
        · intro w hSw
          try dsimp only at hSw
          go_simp
          try with_reducible rfl
        try simp only [Act.put, List.setIfInBounds_toArray, List.set_cons_zero, List.set_cons_succ]
        refine puG 2 ⟨some 99, .nilCheck (.tmp 98), 0, _, #[⟨1, .data⟩], none⟩ (v := ?_) ?_ (fun _ => by assumption) ?_
        rotate_left
        · intro w hSw
          try dsimp only at hSw
          go_simp
          try with_reducible rfl
        try simp only [Act.put, List.setIfInBounds_toArray, List.set_cons_zero, List.set_cons_succ]
        refine puG 3 ⟨some 100, .fieldAddr 27 (.tmp 99) 12, 0, _, #[⟨2, .data⟩], none⟩ (v := ?_) ?_ (fun _ => by assumption) ?_
        rotate_left
        · intro w hSw
          try dsimp only at hSw
          go_simp
          try with_reducible rfl
        try simp only [Act.put, List.setIfInBounds_toArray, List.set_cons_zero, List.set_cons_succ]
        refine tkG 4 ⟨some 101, .load 24 (.tmp 100), 24, _, #[⟨3, .data⟩], none⟩ (v := ?_) ?_ (by assumption) ?_
        rotate_left
        · intro w hSw
          try dsimp only at hSw
          go_simp
          try with_reducible rfl
        try simp only [Act.put, List.setIfInBounds_toArray, List.set_cons_zero, List.set_cons_succ]
        refine puG 5 ⟨some 102, .move (.tmp 0), 71, _, #[], none⟩ (v := ?_) ?_ (fun _ => by assumption) ?_
        rotate_left
        · intro w hSw
          try dsimp only at hSw
          go_simp
          try with_reducible rfl
        try simp only [Act.put, List.setIfInBounds_toArray, List.set_cons_zero, List.set_cons_succ]
        refine onG 6 ⟨some 103, .call { callee := Callee.value (Operand.func 35), args := #[.tmp 102, Operand.const (Value.int IntKind.i64 2)], argTypes := #[71, 3] }, 2, _, #[⟨5, .data⟩], none⟩ (fun K hK => ?_)
        go_simp
        refine (number_any _ B p 2 r1 (HX.out.2.1.keep (nextN (Mem.start wr) 1)) (by decide)).mono ?_
        rintro e w4 he
        rcases h2 : rnum 2 r1 with _ | ⟨v, r2⟩
        · rw [h2] at he
          obtain ⟨hf, rfl⟩ := he
          refine ⟨rfl, rfl, ?_, ?_, _, _, (HX.out.2.2.1.keep (nextN (Mem.start wr) 1)).fr hf HQ.out.1.2⟩
          · rw [rnodes_snoc, HX.out.1, Option.bind_some, h2]; rfl
          · exact (HX.out.2.2.2.2.trans (Fr.quiet (S := fun _ => False) (nextN (Mem.start wr) 1)) fun _ _ h => h.elim).trans hf fun k _ h => .inl h
        rw [h2] at he
        obtain ⟨hf, rfl, hr2⟩ := he
        dsimp only [Option.map_some] at hr2 ⊢
        have hv := (rnum_some h2).1
        dsimp only at hv
        rw [sgn_small (show v < 9223372036854775808 by omega)]
        have hfw : Fr (fun k => k = p) wr w4 := (Fr.quiet (S := fun k => k = p) (nextN (Mem.start wr) 1)).trans hf fun _ _ h => h
        have HF2 := Lib.hid hfw
        have HD2 := Lib.hid (And.intro hr2 h2)
        have HB4 := Lib.hid (HX.out.2.2.1.fr hfw HQ.out.1.2)
        have HO4 := Lib.hid (HX.out.2.2.2.1.fr hfw (fun g hg e => by obtain ⟨_, A9, c9, hp9, _⟩ := HX.out.2.1; exact hp9.ne_own HX.out.2.2.2.1 (by decide) _ hg e))
        have HW4 := Lib.hid (show w.heap.size ≤ w4.heap.size from Nat.le_trans HX.out.2.2.2.2.size hfw.size)
        clear hr2 h2 hv hfw
        refine hK.out _ _ ?_ (fun hHeld => ?_)
        · intro _
          try dsimp only
          exact cellFr hf hHeld HQ.out.1.2
        clear hK K
        try simp only [Act.put, List.setIfInBounds_toArray, List.set_cons_zero, List.set_cons_succ]
        have hHeld := hHeld (by kernel_rfl)
        refine onG 7 ⟨some 104, .buildSlice 24 1 #[(0, .tmp 103)], 24, _, #[⟨6, .data⟩], none⟩ (fun K hK => ?_)
        go_simp
        try dsimp only
        refine hK.out _ _ ?_ (fun hHeld => ?_)
        · intro _
          try dsimp only
          exact (Below.cell (nextA (Mem.start w4) _) (World.block_lt_of_cell? _ _ hHeld)).trans hHeld
        clear hK K
        try simp only [Act.put, List.setIfInBounds_toArray, List.set_cons_zero, List.set_cons_succ]
        have hHeld := hHeld (by kernel_rfl)
        refine onG 8 ⟨some 105, .call { callee := Callee.builtin Builtin.append, args := #[.tmp 101, .tmp 104], argTypes := #[24, 24] }, 24, _, #[⟨4, .data⟩, ⟨7, .data⟩, ⟨6, .chain⟩], none⟩ (fun K hK => ?_)
        obtain ⟨i0, hi0, hz0, hz1, hz2⟩ := info_parts iinfo9
        refine step_app (w4.alloc (.cells #[.int .i64 (v : Int)] 3)) rfl (.tmp 101) (.tmp 104) 24 (by rfl) w.heap.size 3 i0 _ 8 Tryd.underlying24 hi0 hz0 hz1 hz2 rfl A c j (xs.map iv) (by rfl) (by rw [List.length_map]; exact HXL.out.symm) (HO4.out.keep (nextA (Mem.start w4) _)) (w4.heap.size + 1) (some ⟨w4.heap.size, 0, none⟩) 1 1 [.int .i64 (v : Int)] (by rfl) (by rfl) (cells_one w4 _ _ _ (Nat.lt_succ_self _)) (fun u hu => by simp at hu; subst hu; rfl) (by rw [List.length_map, HXL.out]; have := HN.out; have := HJ.out.1; unfold maxLen; simp; omega) (by rw [List.length_map, HXL.out]; have := HN.out; have := HJ.out.1; simp; omega) (by have := HW4.out; simp; omega) (j + 1) rfl ?_
        intro A3 c3 w5 ho3 hb3 hg3 hA3
        have ho4 : Mem.Own w5 w.heap.size 3 A3 c3 ((xs ++ [(v : Int)]).map iv) := by rw [List.map_append]; exact ho3
        have hf5 : Fr (fun k => A.map (·.block) = some k) w4 w5 := (Fr.quiet (S := fun k => A.map (·.block) = some k) (nextA (Mem.start w4) _)).trans (Fr.grown (S := fun k => A.map (·.block) = some k) hg3 fun k h => h) fun _ _ h => h
        have hlo : ∀ k, k < w.heap.size → ¬ A.map (·.block) = some k := fun k hk h => by
          rcases HO4.out.form with ⟨e, _⟩ | ⟨g2, e, hg2, _⟩
          · rw [e] at h; cases h
          · rw [e] at h; injection h with h; dsimp only at h; omega
        have HO5 := Lib.hid (And.intro ho4 (And.intro hf5 hlo))
        clear ho3 hb3 hg3 hA3 hf5 hlo ho4 hi0 hz0 hz1 hz2
        try dsimp only
        refine hK.out _ _ ?_ (fun hHeld => ?_)
        · intro _
          try dsimp only
          have hB5 := HB4.out.fr HO5.out.2.1 (fun h => by rcases HO4.out.form with ⟨e, _⟩ | ⟨g2, e, hg2, _⟩; (rw [e] at h; cases h); (rw [e] at h; injection h with h; dsimp only at h; exact HB4.out.ne_own HO4.out (by decide) _ e h))
          have := hB5.cell 12
          simp [mv] at this
          rw [HXL.out] at this
          exact this
        clear hK K
        try simp only [Act.put, List.setIfInBounds_toArray, List.set_cons_zero, List.set_cons_succ]
        have hHeld := hHeld (by kernel_rfl)
        refine puG 9 ⟨some 106, .nilCheck (.tmp 97), 0, _, #[⟨0, .data⟩, ⟨0, .phase⟩, ⟨1, .phase⟩, ⟨2, .phase⟩, ⟨3, .phase⟩, ⟨4, .phase⟩, ⟨5, .phase⟩, ⟨6, .phase⟩, ⟨7, .phase⟩, ⟨8, .phase⟩], none⟩ (v := ?_) ?_ (fun _ => by assumption) ?_
        rotate_left
        · intro w hSw
          try dsimp only at hSw
          go_simp
          try with_reducible rfl
        try simp only [Act.put, List.setIfInBounds_toArray, List.set_cons_zero, List.set_cons_succ]
        refine puG 10 ⟨some 107, .fieldAddr 27 (.tmp 106) 12, 0, _, #[⟨9, .data⟩, ⟨0, .phase⟩, ⟨1, .phase⟩, ⟨2, .phase⟩, ⟨3, .phase⟩, ⟨4, .phase⟩, ⟨5, .phase⟩, ⟨6, .phase⟩, ⟨7, .phase⟩, ⟨8, .phase⟩], none⟩ (v := ?_) ?_ (fun _ => by assumption) ?_
        rotate_left
        · intro w hSw
          try dsimp only at hSw
          go_simp
          try with_reducible rfl
        try simp only [Act.put, List.setIfInBounds_toArray, List.set_cons_zero, List.set_cons_succ]
        refine onG 11 ⟨none, .store 24 (.tmp 107) (.tmp 105), 0, _, #[⟨10, .data⟩, ⟨8, .data⟩, ⟨8, .chain⟩, ⟨0, .phase⟩, ⟨1, .phase⟩, ⟨2, .phase⟩, ⟨3, .phase⟩, ⟨4, .phase⟩, ⟨5, .phase⟩, ⟨6, .phase⟩, ⟨7, .phase⟩, ⟨8, .phase⟩], none⟩ (fun K hK => ?_)
        have hB5 := HB4.out.fr HO5.out.2.1 (fun h => by rcases HO4.out.form with ⟨e, _⟩ | ⟨g2, e, hg2, _⟩; (rw [e] at h; cases h); (rw [e] at h; injection h with h; dsimp only at h; exact HB4.out.ne_own HO4.out (by decide) _ e h))
        have HB5 := Lib.hid hB5
        have z0 := hB5.frozen 12
        have cc0 := hB5.cell 12
        simp [mv] at cc0
        clear hB5
        go_simp
        try dsimp only
        clear z0 cc0
        refine hK.out _ _ ?_ (fun hHeld => ?_)
        · exact fun h => (st_no (by kernel_rfl) h).elim
        clear hK K
        try simp only [Act.put, List.setIfInBounds_toArray, List.set_cons_zero, List.set_cons_succ]
        clear hHeld
        refine wpAnyG_done (by kernel_rfl) ?_ _
        refine PanQ.normal ?_
        have hset : Fr (fun k => k = q) w5 (w5.setCell ⟨q, 12, none⟩ (.slice A3 (j + 1) c3)) := Fr.setCell (S := fun k => k = q) (w' := w5) (Fr.refl _ w5) (p := ⟨q, 12, none⟩) (fun _ => rfl) _
        have hrd5 : Rd w5 B p r2 := HD2.out.1.fr HO5.out.2.1 (fun k hk => by
          by_cases hlt : k < w.heap.size
          · exact absurd hk (HO5.out.2.2 k hlt)
          · have := HQ.out.2.lt; have := HQ.out.1.1; omega) (fun h => by rcases HO4.out.form with ⟨e, _⟩ | ⟨g2, e, hg2, _⟩; (rw [e] at h; cases h); (rw [e] at h; injection h with h; dsimp only at h; obtain ⟨_, A9, c9, hp9, _⟩ := HD2.out.1; exact hp9.ne_own HO4.out (by decide) _ e h))
        have HFIN := Lib.hid (show NI w B p q m s r (j + 1) (w5.setCell ⟨q, 12, none⟩ (.slice A3 (j + 1) c3)) from ⟨xs ++ [(v : Int)], r2, A3, c3, by rw [rnodes_snoc, HX.out.1, Option.bind_some, HD2.out.2]; rfl, hrd5.fr hset (fun k hk => by have := HQ.out.1.1; omega) (fun h => HQ.out.1.2 h.symm), by
            have := HB5.out.set_ 12 (.slice A3 (j + 1) c3)
            rw [← HXL.out] at this ⊢
            simpa [mv] using this, HO5.out.1.fr hset (fun g hg e => HB5.out.ne_own HO5.out.1 (by decide) _ hg e), by
            refine ((HX.out.2.2.2.2.trans HF2.out fun k _ h => .inl h).trans HO5.out.2.1 fun k hk h => (HO5.out.2.2 k hk h).elim).trans hset fun k _ h => .inr h⟩)
        clear hset hrd5
        go_wp2_with fail
        go_roundw
        case rel => exact ⟨j + 1, by go_num, HJ.out.1, HFIN.out⟩
        case measure => simp [intOf]; have := HJ.out.1; omega
      · obtain rfl : j = n := by omega
        clear hI hjn
        go_wp2_with fail
        go_end0
        obtain ⟨xs, r1, A, c, g1, g2, g3, g4, g5⟩ := HI.out
        rw [g1]
        dsimp only [Option.map_some]
        refine ⟨g5, rfl, g2, _, g3, ?_, ?_⟩
        · have hR := HRO.out.1.frT HRO.out.2.2 HQ.out.2 g5
          have hle : B2 ≤ w.heap.size := HB2.out
          exact ⟨hR.1, g4.down hle, hR.2.2⟩
        · exact ⟨fun _ => ⟨rfl, rfl⟩, fun h => absurd rfl h, fun _ => ⟨rfl, rfl⟩⟩
set_option maxRecDepth 100000 in
set_option maxHeartbeats 8000000 in
theorem get8_any (w : World) (B B2 p q : Nat) (m : Msg) (s : Sl) (l : List UInt8) (h : Rd w B p l) (hB : Blk w q 27 (mv m s)) (hR : RowsO w B2 m s) (hB2 : B2 ≤ w.heap.size) (hq : B ≤ q ∧ q ≠ p) (hf : m.ids = [] ∧ s.ia = none ∧ s.ic = 0) :
    Calls Tryd.prog 36 #[.pointer (some ⟨p, 0, none⟩), .int .u16 (bit 8), .pointer (some ⟨q, 0, none⟩)] w (GetR w B B2 p q 8 s (rf m l 8)) := by
  rw [show bit 8 = 256 from rfl]
  have HQ := Lib.hid (And.intro hq hB)
  have HRO := Lib.hid (And.intro hR (And.intro hf h))
  have HB2 := Lib.hid hB2
  clear hB2
  have hrf : rf m l 8 = (rnum 1 l).bind fun p => (rids p.1 p.2).map fun q => ({ m with ids := m.ids ++ q.1 }, q.2) := rfl
  rw [hrf]
  rw [hf.1]
  have hmv : mv m s = mv { m with ids := [] } { s with ia := none, ic := 0 } := by unfold mv; simp [hf.1, hf.2.1, hf.2.2]
  have HMV := Lib.hid hmv
  clear hq hB hR hf hrf hmv
  cases h1 : rnum 1 l with
  | none =>
    have H1 := Lib.hid h1
    clear h1
    go_enter Tryd.func36, Tryd.ntmps36
    go_wp2_with fail
    refine (number_any w B p 1 l h (by decide)).mono ?_
    rintro e w1 he
    rw [H1.out] at he
    obtain ⟨hf, rfl⟩ := he
    have HF := Lib.hid hf
    clear hf
    go_wp2_with fail
    exact ⟨rfl, HF.out.mono fun k _ h => .inl h, rfl, _, _, HQ.out.2.fr HF.out HQ.out.1.2⟩
  | some x =>
    obtain ⟨n, r⟩ := x
    have hn := (rnum_some h1).1
    dsimp only at hn
    have HSG := Lib.hid (show sgn n = (n : Int) from sgn_small (by omega))
    have HN := Lib.hid (show n < 256 by omega)
    have H1 := Lib.hid h1
    clear h1 hn
    rw [Option.bind_some]
    dsimp only
    go_enter Tryd.func36, Tryd.ntmps36
    go_wp2_with fail
    refine (number_any w B p 1 l h (by decide)).mono ?_
    rintro e w1 he
    rw [H1.out] at he
    obtain ⟨hf, rfl, hrd⟩ := he
    dsimp only [Option.map_some] at hrd ⊢
    rw [HSG.out]
    have HS := Lib.hid (show DI w B p q m s r 0 w1 from ⟨[], r, none, 0, rfl, hrd, by have := HQ.out.2.fr hf HQ.out.1.2; rw [HMV.out] at this; exact this, OwnK.nil, hf.mono fun k _ h => .inl h⟩)
    have HW1 := Lib.hid hf.size
    clear hf hrd h
    have hn0 : (0 : Int) ≤ (n : Int) := by omega
    have hn1 : (n : Int) ≤ 255 := by have := HN.out; omega
    go_wp2_with fail
    go_loopw [74] (fun i wr => ∃ j : Nat, i = .int .i64 (j : Int) ∧ j ≤ n ∧ DI w B p q m s r j wr) (fun i _ => n - (intOf i).toNat)
    case atStart => exact ⟨0, rfl, Nat.zero_le _, HS.out⟩
    case round =>
      clear HS
      obtain ⟨j, rfl, hj, hI⟩ := hrel
      have HI := Lib.hid hI
      by_cases hjn : j < n
      · obtain ⟨xs, r1, A, c, g1, g2, g3, g4, g5⟩ := hI
        have hxl := rids_len g1
        dsimp only at hxl
        have c11 := g3.cell 11
        simp [mv] at c11
        rw [hxl] at c11 g4
        have HX := Lib.hid (And.intro g1 (And.intro g2 (And.intro g3 (And.intro g4 g5))))
        have HXL := Lib.hid hxl
        have HJ := Lib.hid (And.intro hjn c11)
        have h1 : (j : Int) < (n : Int) := by omega
        have h0 : (0 : Int) ≤ (j : Int) := by omega
        clear g1 g2 g3 g4 g5 hxl c11
        go_wp2_with fail
        refine wp_region_pan [] (fun ch V => ch = thrown ∧ rids (j + 1) r = none ∧ Fr (fun k => k = p ∨ k = q) w V ∧ ∃ m' s', Blk V q 27 (mv m' s')) (fun ch a' w' hd hp => ?pan) ?_
        case pan =>
          obtain ⟨rfl, hnn, hff, hbb⟩ := hp
          go_wp2_with fail
          rw [rids_none hnn n HJ.out.1]
          exact ⟨hd, hff, rfl, hbb⟩
        refine wp_heldG (fun V => V.cell? ⟨q, 11, none⟩ = some (.slice A j c)) [14] (by kernel_rfl) ?hs0 ?rg0
        case hs0 =>
          exact HJ.out.2
        case rg0 =>
        intro hHeld
        refine puG 0 ⟨some 76, .move (.tmp 2), 76, _, #[], none⟩ (v := ?_) ?_ (fun _ => by assumption) ?_
        rotate_left
        · intro w hSw
          try dsimp only at hSw
          go_simp
          try with_reducible rfl
        try simp only [Act.put, List.setIfInBounds_toArray, List.set_cons_zero, List.set_cons_succ]
        refine puG 1 ⟨some 77, .move (.tmp 2), 76, _, #[], none⟩ (v := ?_) ?_ (fun _ => by assumption) ?_
        rotate_left
        · intro w hSw
          try dsimp only at hSw
          go_simp
          try with_reducible rfl
        try simp only [Act.put, List.setIfInBounds_toArray, List.set_cons_zero, List.set_cons_succ]
        refine puG 2 ⟨some 78, .nilCheck (.tmp 77), 0, _, #[⟨1, .data⟩], none⟩ (v := ?_) ?_ (fun _ => by assumption) ?_
        rotate_left
        · intro w hSw
          try dsimp only at hSw
          go_simp
          try with_reducible rfl
        try simp only [Act.put, List.setIfInBounds_toArray, List.set_cons_zero, List.set_cons_succ]
        refine puG 3 ⟨some 79, .fieldAddr 27 (.tmp 78) 11, 0, _, #[⟨2, .data⟩], none⟩ (v := ?_) ?_ (fun _ => by assumption) ?_
        rotate_left
        · intro w hSw
          try dsimp only at hSw
          go_simp
          try with_reducible rfl
        try simp only [Act.put, List.setIfInBounds_toArray, List.set_cons_zero, List.set_cons_succ]
        refine tkG 4 ⟨some 80, .load 23 (.tmp 79), 23, _, #[⟨3, .data⟩], none⟩ (v := ?_) ?_ (by assumption) ?_
        rotate_left
        · intro w hSw
          try dsimp only at hSw
          go_simp
          try with_reducible rfl
        try simp only [Act.put, List.setIfInBounds_toArray, List.set_cons_zero, List.set_cons_succ]
        refine puG 5 ⟨some 81, .move (.tmp 0), 71, _, #[], none⟩ (v := ?_) ?_ (fun _ => by assumption) ?_
        rotate_left
        · intro w hSw
          try dsimp only at hSw
          go_simp
          try with_reducible rfl
        try simp only [Act.put, List.setIfInBounds_toArray, List.set_cons_zero, List.set_cons_succ]
        refine puG 7 ⟨some 83, .move (.tmp 0), 71, _, #[], none⟩ (v := ?_) ?_ (fun _ => by assumption) ?_
        rotate_left
        · intro w hSw
          try dsimp only at hSw
          go_simp
          try with_reducible rfl
        try simp only [Act.put, List.setIfInBounds_toArray, List.set_cons_zero, List.set_cons_succ]
        refine onG 6 ⟨some 82, .call { callee := Callee.value (Operand.func 63), args := #[.tmp 81], argTypes := #[71] }, 9, _, #[⟨5, .data⟩], none⟩ (fun K hK => ?_)
        go_simp
        refine (rtext_any _ B p r1 (HX.out.2.1.keep (nextN (Mem.start wr) 1))).mono ?_
        rintro e w3 he
        rcases h2 : rtxt r1 with _ | ⟨ky, r2⟩
        · rw [h2] at he
          obtain ⟨hf, rfl⟩ := he
          refine ⟨rfl, rfl, ?_, ?_, _, _, (HX.out.2.2.1.keep (nextN (Mem.start wr) 1)).fr hf HQ.out.1.2⟩
          · rw [rids_snoc, HX.out.1, Option.bind_some]; unfold rid; rw [h2]; rfl
          · exact (HX.out.2.2.2.2.trans (Fr.quiet (S := fun _ => False) (nextN (Mem.start wr) 1)) fun _ _ h => h.elim).trans hf fun k _ h => .inl h
        rw [h2] at he
        obtain ⟨hf, rfl, hr2⟩ := he
        dsimp only [Option.map_some] at hr2 ⊢
        have hfw : Fr (fun k => k = p) wr w3 := (Fr.quiet (S := fun k => k = p) (nextN (Mem.start wr) 1)).trans hf fun _ _ h => h
        have HF1 := Lib.hid hfw
        have HD1 := Lib.hid (And.intro hr2 h2)
        clear hr2 h2 hfw
        refine hK.out _ _ ?_ (fun hHeld => ?_)
        · intro _
          try dsimp only
          exact cellFr hf hHeld HQ.out.1.2
        clear hK K
        try simp only [Act.put, List.setIfInBounds_toArray, List.set_cons_zero, List.set_cons_succ]
        have hHeld := hHeld (by kernel_rfl)
        refine onG 8 ⟨some 84, .call { callee := Callee.value (Operand.func 35), args := #[.tmp 83, Operand.const (Value.int IntKind.i64 8)], argTypes := #[71, 3] }, 2, _, #[⟨7, .data⟩, ⟨6, .chain⟩], none⟩ (fun K hK => ?_)
        go_simp
        refine (number_any _ B p 8 r2 HD1.out.1 (by decide)).mono ?_
        rintro e w4 he
        rcases h2 : rnum 8 r2 with _ | ⟨v, r3⟩
        · rw [h2] at he
          obtain ⟨hf, rfl⟩ := he
          have hfw : Fr (fun k => k = p) wr w4 := HF1.out.trans hf fun _ _ h => h
          refine ⟨rfl, rfl, ?_, HX.out.2.2.2.2.trans hfw fun k _ h => .inl h, _, _, HX.out.2.2.1.fr hfw HQ.out.1.2⟩
          rw [rids_snoc, HX.out.1, Option.bind_some]; unfold rid; rw [HD1.out.2, Option.bind_some, h2]; rfl
        rw [h2] at he
        obtain ⟨hf, rfl, hr2⟩ := he
        dsimp only [Option.map_some] at hr2 ⊢
        obtain ⟨vv, hvv⟩ : ∃ vv, sgn v = vv := ⟨_, rfl⟩
        rw [hvv]
        have hid : rid r1 = some ((ky, vv), r3) := by unfold rid; rw [HD1.out.2, Option.bind_some, h2, ← hvv]; rfl
        have hfw : Fr (fun k => k = p) wr w4 := HF1.out.trans hf fun _ _ h => h
        have HF2 := Lib.hid hfw
        have HD2 := Lib.hid (And.intro hr2 hid)
        have HB4 := Lib.hid (HX.out.2.2.1.fr hfw HQ.out.1.2)
        have HO4 := Lib.hid (HX.out.2.2.2.1.fr hfw (fun g hg e => by obtain ⟨_, A9, c9, hp9, _⟩ := HX.out.2.1; exact blk_ne_ownK hp9 HX.out.2.2.2.1 (by decide) (by rw [hg, e])))
        have HW4 := Lib.hid (show w.heap.size ≤ w4.heap.size from Nat.le_trans HX.out.2.2.2.2.size hfw.size)
        clear hr2 h2 hfw hid hvv
        refine hK.out _ _ ?_ (fun hHeld => ?_)
        · intro _
          try dsimp only
          exact cellFr hf hHeld HQ.out.1.2
        clear hK K
        try simp only [Act.put, List.setIfInBounds_toArray, List.set_cons_zero, List.set_cons_succ]
        have hHeld := hHeld (by kernel_rfl)
        refine puG 9 ⟨some 85, .build 50 #[(0, .tmp 82), (1, .tmp 84)], 50, _, #[⟨6, .data⟩, ⟨8, .data⟩], none⟩ (v := ?_) ?_ (fun _ => by assumption) ?_
        rotate_left
        · intro w hSw
          try dsimp only at hSw
          go_simp
          try with_reducible rfl
        try simp only [Act.put, List.setIfInBounds_toArray, List.set_cons_zero, List.set_cons_succ]
        refine onG 10 ⟨some 86, .buildSlice 23 1 #[(0, .tmp 85)], 23, _, #[⟨9, .data⟩], none⟩ (fun K hK => ?_)
        go_simp
        try dsimp only
        refine hK.out _ _ ?_ (fun hHeld => ?_)
        · intro _
          try dsimp only
          exact (Below.cell (nextA (Mem.start w4) _) (World.block_lt_of_cell? _ _ hHeld)).trans hHeld
        clear hK K
        try simp only [Act.put, List.setIfInBounds_toArray, List.set_cons_zero, List.set_cons_succ]
        have hHeld := hHeld (by kernel_rfl)
        refine onG 11 ⟨some 87, .call { callee := Callee.builtin Builtin.append, args := #[.tmp 80, .tmp 86], argTypes := #[23, 23] }, 23, _, #[⟨4, .data⟩, ⟨10, .data⟩, ⟨8, .chain⟩], none⟩ (fun K hK => ?_)
        obtain ⟨i0, hi0, hz0, hz1, hz2⟩ := info_parts idinfo9
        refine step_appK (w4.alloc (.cells #[.string (str ky), .int .i64 vv] 50)) rfl (.tmp 80) (.tmp 86) 23 (by rfl) w.heap.size 50 i0 _ 2 24 Tryd.underlying23 hi0 hz0 hz1 hz2 (by rfl) (by decide) A c j (xs.flatMap dc) (by rfl) (HO4.out.keep (nextA (Mem.start w4) _)) (w4.heap.size + 1) (some ⟨w4.heap.size, 0, none⟩) 1 1 (dc (ky, vv)) (by rfl) ?cl (by rfl) (fun u hu => by simp [dc] at hu; rcases hu with rfl | rfl <;> rfl) (by have := HN.out; have := HJ.out.1; unfold maxLen; omega) (by have := HN.out; have := HJ.out.1; omega) (by have := HW4.out; simp; omega) (j + 1) rfl ?_
        case cl => exact fun _ => ⟨w4.heap.size, 0, rfl, Nat.lt_succ_self _, fun qq v hv => by rw [Nat.zero_add]; exact (new_cell w4 _ _ _ qq).trans (by rw [← hv]; simp [dc])⟩
        intro A3 c3 w5 ho3 hb3 hg3 hA3
        have ho4 : OwnK w5 w.heap.size 50 2 A3 (j + 1) c3 ((xs ++ [(ky, vv)]).flatMap dc) := by rw [List.flatMap_append]; simpa using ho3
        have hf5 : Fr (fun k => A.map (·.block) = some k) w4 w5 := (Fr.quiet (S := fun k => A.map (·.block) = some k) (nextA (Mem.start w4) _)).trans (Fr.grown (S := fun k => A.map (·.block) = some k) hg3 fun k h => h) fun _ _ h => h
        have hlo : ∀ k, k < w.heap.size → ¬ A.map (·.block) = some k := fun k hk h => by
          rcases HO4.out.form with ⟨e, _⟩ | ⟨g2, e, hg2, _⟩
          · rw [e] at h; cases h
          · rw [e] at h; injection h with h; dsimp only at h; omega
        have HO5 := Lib.hid (And.intro ho4 (And.intro hf5 hlo))
        clear ho3 hb3 hg3 hA3 hf5 hlo ho4 hi0 hz0 hz1 hz2
        try dsimp only
        refine hK.out _ _ ?_ (fun hHeld => ?_)
        · intro _
          try dsimp only
          have hB5 := HB4.out.fr HO5.out.2.1 (fun h => by rcases HO4.out.form with ⟨e, _⟩ | ⟨g2, e, hg2, _⟩; (rw [e] at h; cases h); (rw [e] at h; injection h with h; dsimp only at h; exact blk_ne_ownK HB4.out HO4.out (by decide) (by rw [e, h])))
          have := hB5.cell 11
          simp [mv] at this
          rw [HXL.out] at this
          exact this
        clear hK K
        try simp only [Act.put, List.setIfInBounds_toArray, List.set_cons_zero, List.set_cons_succ]
        have hHeld := hHeld (by kernel_rfl)
        refine puG 12 ⟨some 88, .nilCheck (.tmp 76), 0, _, #[⟨0, .data⟩, ⟨0, .phase⟩, ⟨1, .phase⟩, ⟨2, .phase⟩, ⟨3, .phase⟩, ⟨4, .phase⟩, ⟨5, .phase⟩, ⟨6, .phase⟩, ⟨7, .phase⟩, ⟨8, .phase⟩, ⟨9, .phase⟩, ⟨10, .phase⟩, ⟨11, .phase⟩], none⟩ (v := ?_) ?_ (fun _ => by assumption) ?_
        rotate_left
        · intro w hSw
          try dsimp only at hSw
          go_simp
          try with_reducible rfl
        try simp only [Act.put, List.setIfInBounds_toArray, List.set_cons_zero, List.set_cons_succ]
        refine puG 13 ⟨some 89, .fieldAddr 27 (.tmp 88) 11, 0, _, #[⟨12, .data⟩, ⟨0, .phase⟩, ⟨1, .phase⟩, ⟨2, .phase⟩, ⟨3, .phase⟩, ⟨4, .phase⟩, ⟨5, .phase⟩, ⟨6, .phase⟩, ⟨7, .phase⟩, ⟨8, .phase⟩, ⟨9, .phase⟩, ⟨10, .phase⟩, ⟨11, .phase⟩], none⟩ (v := ?_) ?_ (fun _ => by assumption) ?_
        rotate_left
        · intro w hSw
          try dsimp only at hSw
          go_simp
          try with_reducible rfl
        try simp only [Act.put, List.setIfInBounds_toArray, List.set_cons_zero, List.set_cons_succ]
        refine onG 14 ⟨none, .store 23 (.tmp 89) (.tmp 87), 0, _, #[⟨13, .data⟩, ⟨11, .data⟩, ⟨11, .chain⟩, ⟨0, .phase⟩, ⟨1, .phase⟩, ⟨2, .phase⟩, ⟨3, .phase⟩, ⟨4, .phase⟩, ⟨5, .phase⟩, ⟨6, .phase⟩, ⟨7, .phase⟩, ⟨8, .phase⟩, ⟨9, .phase⟩, ⟨10, .phase⟩, ⟨11, .phase⟩], none⟩ (fun K hK => ?_)
        have hB5 := HB4.out.fr HO5.out.2.1 (fun h => by rcases HO4.out.form with ⟨e, _⟩ | ⟨g2, e, hg2, _⟩; (rw [e] at h; cases h); (rw [e] at h; injection h with h; dsimp only at h; exact blk_ne_ownK HB4.out HO4.out (by decide) (by rw [e, h])))
        have HB5 := Lib.hid hB5
        have z0 := hB5.frozen 11
        have cc0 := hB5.cell 11
        simp [mv] at cc0
        clear hB5
        go_simp
        try dsimp only
        clear z0 cc0
        refine hK.out _ _ ?_ (fun hHeld => ?_)
        · exact fun h => (st_no (by kernel_rfl) h).elim
        clear hK K
        try simp only [Act.put, List.setIfInBounds_toArray, List.set_cons_zero, List.set_cons_succ]
        clear hHeld
        refine wpAnyG_done (by kernel_rfl) ?_ _
        refine PanQ.normal ?_
        have hset : Fr (fun k => k = q) w5 (w5.setCell ⟨q, 11, none⟩ (.slice A3 (j + 1) c3)) := Fr.setCell (S := fun k => k = q) (w' := w5) (Fr.refl _ w5) (p := ⟨q, 11, none⟩) (fun _ => rfl) _
        have hrd5 : Rd w5 B p r3 := HD2.out.1.fr HO5.out.2.1 (fun k hk => by
          by_cases hlt : k < w.heap.size
          · exact absurd hk (HO5.out.2.2 k hlt)
          · have := HQ.out.2.lt; have := HQ.out.1.1; omega) (fun h => by rcases HO4.out.form with ⟨e, _⟩ | ⟨g2, e, hg2, _⟩; (rw [e] at h; cases h); (rw [e] at h; injection h with h; dsimp only at h; obtain ⟨_, A9, c9, hp9, _⟩ := HD2.out.1; exact blk_ne_ownK hp9 HO4.out (by decide) (by rw [e, h])))
        have HFIN := Lib.hid (show DI w B p q m s r (j + 1) (w5.setCell ⟨q, 11, none⟩ (.slice A3 (j + 1) c3)) from ⟨xs ++ [(ky, vv)], r3, A3, c3, by rw [rids_snoc, HX.out.1, Option.bind_some, HD2.out.2]; rfl, hrd5.fr hset (fun k hk => by have := HQ.out.1.1; omega) (fun h => HQ.out.1.2 h.symm), by
            have := HB5.out.set_ 11 (.slice A3 (j + 1) c3)
            rw [← HXL.out] at this ⊢
            simpa [mv] using this, by
            have h := HO5.out.1.fr hset (fun g hg e => blk_ne_ownK HB5.out HO5.out.1 (by decide) (by rw [hg, e]))
            rw [show (xs ++ [(ky, vv)]).length = j + 1 by rw [List.length_append, HXL.out]; rfl]
            exact h, by
            refine ((HX.out.2.2.2.2.trans HF2.out fun k _ h => .inl h).trans HO5.out.2.1 fun k hk h => (HO5.out.2.2 k hk h).elim).trans hset fun k _ h => .inr h⟩)
        clear hset hrd5
        go_wp2_with fail
        go_roundw
        case rel => exact ⟨j + 1, by go_num, HJ.out.1, HFIN.out⟩
        case measure => simp [intOf]; have := HJ.out.1; omega
      · obtain rfl : j = n := by omega
        clear hI hjn
        go_wp2_with fail
        go_end0
        obtain ⟨xs, r1, A, c, g1, g2, g3, g4, g5⟩ := HI.out
        rw [g1]
        dsimp only [Option.map_some]
        refine ⟨g5, rfl, g2, _, g3, ?_, ?_⟩
        · have hR := HRO.out.1.frT HRO.out.2.2 HQ.out.2 g5
          have hle : B2 ≤ w.heap.size := HB2.out
          exact ⟨g4.down hle, hR.2.1, hR.2.2⟩
        · exact ⟨fun h => absurd rfl h, fun _ => ⟨rfl, rfl⟩, fun _ => ⟨rfl, rfl⟩⟩
set_option maxRecDepth 100000 in
set_option maxHeartbeats 8000000 in
theorem get10_any (w : World) (B B2 p q : Nat) (m : Msg) (s : Sl) (l : List UInt8) (h : Rd w B p l) (hB : Blk w q 27 (mv m s)) (hR : RowsO w B2 m s) (hB2 : B2 ≤ w.heap.size) (hq : B ≤ q ∧ q ≠ p) (hf : (m.data = [] ∧ s.da = none ∧ s.dk = 0) ∧ l.length ≤ 100000000) :
    Calls Tryd.prog 36 #[.pointer (some ⟨p, 0, none⟩), .int .u16 (bit 10), .pointer (some ⟨q, 0, none⟩)] w (GetR w B B2 p q 10 s (rf m l 10)) := by
  rw [show bit 10 = 1024 from rfl]
  have HQ := Lib.hid (And.intro hq hB)
  have HRO := Lib.hid (And.intro hR (And.intro hf h))
  have HB2 := Lib.hid hB2
  clear hB2
  have hrf : rf m l 10 = (rnum 4 l).bind fun p => (cut p.1 p.2).map fun q => ({ m with data := q.1 }, q.2) := rfl
  rw [hrf]
  clear hq hB hR hf hrf
  cases h1 : rnum 4 l with
  | none =>
    have H1 := Lib.hid h1
    clear h1
    go_enter Tryd.func36, Tryd.ntmps36
    go_wp2_with fail
    refine (number_any w B p 4 l h (by decide)).mono ?_
    rintro e w1 he
    rw [H1.out] at he
    obtain ⟨hf, rfl⟩ := he
    have HF := Lib.hid hf
    clear hf
    go_wp2_with fail
    exact ⟨rfl, HF.out.mono fun k _ h => .inl h, rfl, _, _, HQ.out.2.fr HF.out HQ.out.1.2⟩
  | some x =>
    obtain ⟨n, r⟩ := x
    have hn := (rnum_some h1).1
    dsimp only at hn
    have hrl : r.length ≤ l.length := by have := (rnum_some h1).2.2.2; dsimp only at this; rw [this, List.length_drop]; omega
    have HSG := Lib.hid (show sgn n = (n : Int) from sgn_small (by omega))
    have HN := Lib.hid (And.intro hn hrl)
    have H1 := Lib.hid h1
    clear h1 hn hrl
    rw [Option.bind_some]
    dsimp only
    by_cases hnr : n ≤ r.length
    · have hcut : cut n r = some (r.take n, r.drop n) := by unfold cut; rw [if_pos hnr]
      have hlt : (r.take n).length = n := by rw [List.length_take]; omega
      obtain ⟨d, hd⟩ : ∃ d, r.take n = d := ⟨_, rfl⟩
      rw [hcut, Option.map_some]
      dsimp only
      rw [hd] at hlt ⊢
      have HNR := Lib.hid (And.intro hnr (And.intro hd hlt))
      clear hcut hlt hnr hd
      by_cases hn0 : n = 0
      · have hg0 : decide ((0 : Int) < (n : Int)) = false := decide_eq_false (by omega)
        have hg1 : decide (0 < n) = false := decide_eq_false (by omega)
        have HN0 := Lib.hid hn0
        clear hn0
        go_enter Tryd.func36, Tryd.ntmps36
        go_wp2_with fail
        refine (number_any w B p 4 l h (by decide)).mono ?_
        rintro e w1 he
        rw [H1.out] at he
        obtain ⟨hf, rfl, hrd⟩ := he
        dsimp only [Option.map_some] at hrd ⊢
        rw [HSG.out]
        have HF := Lib.hid hf
        have HRD := Lib.hid hrd
        clear hf hrd h
        go_wp2_with fail
        refine (raw_any w1 B p n r HRD.out (by have := HN.out; omega)).mono ?_
        rintro e w2 he
        rw [if_pos HNR.out.1] at he
        obtain ⟨A, c, rfl, hnc, hcc, hby, hrd2, hf2⟩ := he
        have HF2 := Lib.hid (HF.out.trans hf2 fun _ _ h => h)
        have HR2 := Lib.hid hrd2
        clear hnc hcc hby hrd2 hf2
        go_wp2_with fail
        go_end0
        have hd0 : d = [] := List.eq_nil_of_length_eq_zero (HNR.out.2.2.trans HN0.out)
        have hf3 := HF2.out.mono (S' := fun k => k = p ∨ k = q) fun k _ h => .inl h
        have hm : ({ m with data := d } : Msg) = m := by rw [hd0, ← HRO.out.2.1.1.1]
        rw [hm]
        exact ⟨hf3, rfl, HR2.out, s, HQ.out.2.fr HF2.out HQ.out.1.2, HRO.out.1.frT HRO.out.2.2 HQ.out.2 hf3, fun _ => ⟨rfl, rfl⟩, fun _ => ⟨rfl, rfl⟩, fun _ => ⟨rfl, rfl⟩⟩
      · have hg0 : decide ((0 : Int) < (n : Int)) = true := decide_eq_true (by omega)
        have hg1 : decide (0 < n) = true := decide_eq_true (by omega)
        have h0 : (0 : Int) < (n : Int) := by omega
        go_enter Tryd.func36, Tryd.ntmps36
        go_wp2_with fail
        refine (number_any w B p 4 l h (by decide)).mono ?_
        rintro e w1 he
        rw [H1.out] at he
        obtain ⟨hf, rfl, hrd⟩ := he
        dsimp only [Option.map_some] at hrd ⊢
        rw [HSG.out]
        have HF := Lib.hid hf
        have HRD := Lib.hid hrd
        clear hf hrd h
        go_wp2_with fail
        refine (raw_any w1 B p n r HRD.out (by have := HN.out; omega)).mono ?_
        rintro e w2 he
        rw [if_pos HNR.out.1] at he
        obtain ⟨A, c, rfl, hnc, hcc, hby, hrd2, hf2⟩ := he
        rw [HNR.out.2.1] at hby
        have HF2 := Lib.hid (HF.out.trans hf2 fun _ _ h => h)
        have HR2 := Lib.hid hrd2
        have HBY := Lib.hid (hby.up (B' := w2.heap.size) (by have := HQ.out.2.lt; have := HQ.out.1.1; have := HF2.out.size; omega))
        clear hnc hcc hby hrd2 hf2
        go_wp2_with fail
        refine (clone_any w2 A d n c HNR.out.2.2.symm (by have := HNR.out.1; have := HN.out.2; have := HRO.out.2.1.2; omega) HBY.out).mono ?_
        rintro e w3 ⟨A3, c3, rfl, ho3, hb3⟩
        rw [HNR.out.2.2]
        have hB3 := (HQ.out.2.fr HF2.out HQ.out.1.2).keep hb3
        have c13 := hB3.cell 13
        have z13 := hB3.frozen 13
        simp [mv] at c13
        have HB3 := Lib.hid (And.intro hB3 (And.intro ho3 hb3))
        clear hB3 ho3 hb3
        go_wp2_with fail
        go_end0
        have hset : Fr (fun k => k = q) w3 (w3.setCell ⟨q, 13, none⟩ (.slice A3 n c3)) := Fr.setCell (S := fun k => k = q) (w' := w3) (Fr.refl _ w3) (p := ⟨q, 13, none⟩) (fun _ => rfl) _
        have hf3 : Fr (fun k => k = p ∨ k = q) w w3 := (HF2.out.trans (Fr.quiet (S := fun _ => False) HB3.out.2.2) fun _ _ h => h.elim).mono (S' := fun k => k = p ∨ k = q) fun k _ h => .inl h
        have hf4 : Fr (fun k => k = p ∨ k = q) w (w3.setCell ⟨q, 13, none⟩ (.slice A3 n c3)) := hf3.trans hset fun k _ h => .inr h
        have hR := HRO.out.1.frT HRO.out.2.2 HQ.out.2 hf4
        have hle : B2 ≤ w2.heap.size := by have := HB2.out; have := HF2.out.size; omega
        refine ⟨hf4, rfl, (HR2.out.keep HB3.out.2.2).fr hset (fun k hk => by have := HQ.out.1.1; omega) (fun h => HQ.out.1.2 h.symm), { s with da := A3, dk := c3 }, ?_, ⟨hR.1, hR.2.1, ?_⟩, fun _ => ⟨rfl, rfl⟩, fun _ => ⟨rfl, rfl⟩, fun h => absurd rfl h⟩
        · have := HB3.out.1.set_ 13 (.slice A3 n c3)
          rw [← HNR.out.2.2] at this ⊢
          simpa [mv] using this
        · exact (HB3.out.2.1.down hle).fr hset (fun g hg e => HB3.out.1.ne_own HB3.out.2.1 (by decide) _ hg e)
    · have hcut : cut n r = none := by unfold cut; rw [if_neg hnr]
      rw [hcut]
      have HNR := Lib.hid hnr
      clear hcut hnr
      go_enter Tryd.func36, Tryd.ntmps36
      go_wp2_with fail
      refine (number_any w B p 4 l h (by decide)).mono ?_
      rintro e w1 he
      rw [H1.out] at he
      obtain ⟨hf, rfl, hrd⟩ := he
      dsimp only [Option.map_some] at hrd ⊢
      rw [HSG.out]
      have HF := Lib.hid hf
      have HRD := Lib.hid hrd
      clear hf hrd h
      go_wp2_with fail
      refine (raw_any w1 B p n r HRD.out (by have := HN.out; omega)).mono ?_
      rintro e w2 he
      rw [if_neg HNR.out] at he
      obtain ⟨rfl, rfl⟩ := he
      go_wp2_with fail
      exact ⟨rfl, HF.out.mono fun k _ h => .inl h, rfl, _, _, HQ.out.2.fr HF.out HQ.out.1.2⟩
end Go.Proofs.YtebdmfmadbikaaaDoor.WiW
/- Package wire's Get, at any bytes. Printed by genwga.py (raw numbers of the seat). -/
namespace Go.Proofs.YtebdmfmadbikaaaDoor.WiW
open Go.RowKit Go.Shelf Mem Fds FdW Wi Rng
set_option linter.unusedVariables false
set_option linter.unusedSimpArgs false
attribute [local go_sem] Oper.semAt_some wide_fn

/-- The message that is nothing. -/
def mz : Msg := msg0 0 0 0
theorem set14z {w : World} {g : Nat} {T : TypeId} {m : Msg} {s : Sl} (h : Blk w g T (mv m s)) (m2 : Msg) (s2 : Sl) : Blk (w.setCells g 0 (mv m2 s2).toList) g T (mv m2 s2) := by
  have h4 := blk_setCells (mv m2 s2).toList 0 w _ h
  have e : setAll (mv m s) 0 (mv m2 s2).toList = mv m2 s2 := by simp [mv, setAll]
  rw [e] at h4; exact h4
set_option maxRecDepth 100000 in
/-- Get's deferred closure, where none has been thrown. -/
theorem caught_in (q b : Nat) (w : World) (n : Nat) (m : Msg) (s : Sl) (x : Value) (hB : Blk w q 27 (mv m s)) (hE : Blk w b 22 #[x]) (hne : q ≠ b) :
    CallsDIn Fence.wide n Tryd.prog 34 #[.pointer (some ⟨q, 0, none⟩), .pointer (some ⟨b, 0, none⟩)] (.panicking thrown) w fun e u' w' =>
      e = .returned (.tuple #[]) ∧ settle u' = .returning ∧ Fr (fun k => k = q ∨ k = b) w w' ∧ Blk w' q 27 (mv mz s0) ∧ Blk w' b 22 #[.int .i64 170] := by
  refine callsDIn_of_wpSIn Tryd.func34 rfl trivial fun c₀ cs hu => ?_
  apply wpSIn_seq
  apply wpSIn_region
  simp [wpOpsSIn, go_sem, recoverD, hu, thrown, Tryd.ntmps34, Exit.thenS]
  apply wpSIn_seq
  apply wpSIn_region
  simp [wpOpsSIn, go_sem, Exit.thenS]
  refine wpSIn_cond (t := true) (by simp [Act.eval, Array.replicate]) ?_
  simp only [if_true]
  refine wpSIn_of_wpIn rfl (wpIn_wide.2 (Code.wp_mono (Q := fun e a w' => e = .normal ∧ a.defers = [] ∧ Fr (fun k => k = q ∨ k = b) w w' ∧ Blk w' q 27 (mv mz s0) ∧ Blk w' b 22 #[.int .i64 170]) ?imp ?walk))
  case imp =>
    rintro e a w' ⟨rfl, hd, hp⟩
    refine ⟨hd, _, rfl, .tuple #[], by simp [results, Tryd.results34, go_sem], rfl, rfl, hp⟩
  case walk =>
    have hz := hE.frozen 0
    have hc := hE.cell 0
    simp only [Array.replicate_succ, Array.replicate_zero, List.push_toArray, List.append_toArray, List.nil_append, List.cons_append, List.setIfInBounds_toArray, List.set_cons_zero, List.set_cons_succ]
    have hbd : ∀ W : World, (Instr.build 27 #[]).run Tryd.prog W = .ok (.agg (mv mz s0)) W := fun W => by kernel_rfl
    have hta : ∀ W : World, (Instr.typeAssert (.iface 70 (.agg #[])) 20 70 false).run Tryd.prog W = .ok (.agg #[]) W := fun W => by kernel_rfl
    have HB := Lib.hid hB
    have HE := Lib.hid hE
    clear hB hE hz hc
    go_wp2_with ((with_reducible show wpList _ _ _ ((⟨none, .store 27 (.tmp 0) (.tmp 8), _, _, _, _⟩ : Oper) :: _) _ _); refine wpList_store_mid rfl 27 (.tmp 0) (.tmp 8) rfl q 0 (mv mz s0) rfl rfl (there_of HB.out) minfo (mv_one _ _) ?_; obtain ⟨w5, hw5⟩ : ∃ x, w.setCells q 0 (mv mz s0).toList = x := ⟨_, rfl⟩; have hF5 : Fr (fun k => k = q) w w5 := (by rw [← hw5]; exact set14_fr w q mz s0); have HF5 := Lib.hid hF5; have HX5 := Lib.hid (show Blk w5 q 27 (mv mz s0) from by rw [← hw5]; exact set14z HB.out mz s0); have HQ5 := Lib.hid (HE.out.fr hF5 (by omega)); have y0 := HQ5.out.cell 0; have y1 := HQ5.out.frozen 0; simp at y0; rw [hw5]; clear hw5 hF5)
    have hf6 : Fr (fun k => k = b) w5 (w5.setCell ⟨b, 0, none⟩ (.int .i64 170)) := Fr.setCell (S := fun k => k = b) (w' := w5) (Fr.refl _ w5) (p := ⟨b, 0, none⟩) (fun _ => rfl) _
    exact ⟨(HF5.out.mono fun k _ h => .inl h).trans hf6 fun k _ h => .inr h, HX5.out.fr hf6 hne, HQ5.out.set_ 0 (.int .i64 170)⟩
/-- Any field. -/
theorem getAny (w : World) (B B2 p q : Nat) (m : Msg) (s : Sl) (l : List UInt8) (f : Nat) (hf : f < 11) (h : Rd w B p l) (hB : Blk w q 27 (mv m s)) (hR : RowsO w B2 m s) (hB2 : B2 ≤ w.heap.size) (hq : B ≤ q ∧ q ≠ p) (hfr : Fresh f m s) (hl : l.length ≤ 100000000) :
    Calls Tryd.prog 36 #[.pointer (some ⟨p, 0, none⟩), .int .u16 (bit f), .pointer (some ⟨q, 0, none⟩)] w (GetR w B B2 p q f s (rf m l f)) := by
  by_cases h8 : f < 8
  · refine (get_small w B p q m s l f h8 h hB hq).mono fun e w' he => ?_
    obtain ⟨hf1, he⟩ := he
    refine ⟨hf1, ?_⟩
    cases hr : rf m l f with
    | none => rw [hr] at he; exact he
    | some x =>
      rw [hr] at he
      obtain ⟨rfl, h1, h2⟩ := he
      have hs := rf_small h8 (m1 := x.1) (l1 := x.2) hr
      have hRR := hR.frT h hB hf1
      refine ⟨rfl, h1, s, h2, ?_, fun _ => ⟨rfl, rfl⟩, fun _ => ⟨rfl, rfl⟩, fun _ => ⟨rfl, rfl⟩⟩
      unfold RowsO; rw [hs.2.1, hs.2.2.1, hs.2.2.2]; exact hRR
  · have : f = 8 ∨ f = 9 ∨ f = 10 := by omega
    rcases this with rfl | rfl | rfl
    · exact get8_any w B B2 p q m s l h hB hR hB2 hq (hfr.1 rfl)
    · exact get9_any w B B2 p q m s l h hB hR hB2 hq (hfr.2.1 rfl)
    · exact get10_any w B B2 p q m s l h hB hR hB2 hq ⟨hfr.2.2 rfl, hl⟩
/-- What Get leaves. -/
def GotR (w : World) (b : List UInt8) (e : Ending) (w' : World) : Prop := Below w.heap.size w w' ∧ match Wi.get b with
  | some m => ∃ s, e = .returned (.tuple #[.agg (mv m s), .int .i64 0]) ∧ RowsO w' w.heap.size m s
  | none => e = .returned (.tuple #[.agg (mv mz s0), .int .i64 170])
/-- The call that is deferred. -/
def CL (q : Nat) : Deferred := { target := .fn (.func 34) #[.pointer (some ⟨q, 0, none⟩), .pointer (some ⟨q + 1, 0, none⟩)], args := #[] }
theorem leave_one (w W : World) (q : Nat) (m : Msg) (s : Sl) (x : Value) (t : Array Value) (b : List UInt8) (hq : w.heap.size = q) (h2 : t.getD 2 undef = .pointer (some ⟨q, 0, none⟩)) (h3 : t.getD 3 undef = .pointer (some ⟨q + 1, 0, none⟩))
    (hB : Blk W q 27 (mv m s)) (hE : Blk W (q + 1) 22 #[x]) (hb : Below q w W) (hg : Wi.get b = none) :
    LeavesInM Fence.wide 5 Tryd.prog Tryd.f15 t (GotR w b) [CL q] (.panicking thrown) W := by
  refine ⟨by simp, .inr ⟨by simp [Fence.wide], _, _, 34, #[.pointer (some ⟨q, 0, none⟩), .pointer (some ⟨q + 1, 0, none⟩)], rfl, by simp [go_sem, CL], fun _ _ => trivial, ?_⟩⟩
  refine (caught_in q (q + 1) W _ m s x hB hE (by omega)).mono ?_
  rintro e u' w' ⟨rfl, hs, hf, hX, hE'⟩
  dsimp only
  rw [hs]
  refine ⟨.tuple #[.agg (mv mz s0), .int .i64 170], ?_, ?_⟩
  · have e0 := hX.cell 0
    have e1 := hX.cell 1
    have e2 := hX.cell 2
    have e3 := hX.cell 3
    have e4 := hX.cell 4
    have e5 := hX.cell 5
    have e6 := hX.cell 6
    have e7 := hX.cell 7
    have e8 := hX.cell 8
    have e9 := hX.cell 9
    have e10 := hX.cell 10
    have e11 := hX.cell 11
    have e12 := hX.cell 12
    have e13 := hX.cell 13
    have e14 := hE'.cell 0
    simp [mv] at e0 e1 e2 e3 e4 e5 e6 e7 e8 e9 e10 e11 e12 e13
    simp at e14
    simp only [results, Tryd.results15]
    simp only [Array.getD_eq_getD_getElem?] at h2 h3
    simp [go_sem, h2, h3, e0, e1, e2, e3, e4, e5, e6, e7, e8, e9, e10, e11, e12, e13, e14]
    rfl
  · have hle : q ≤ W.heap.size := by have := hB.lt; omega
    refine ⟨by rw [hq]; exact hb.trans (hf.below hle fun k hk => by omega), ?_⟩
    rw [hg]
theorem leave_two (w W : World) (q D : Nat) (m : Msg) (s : Sl) (x : Value) (t : Array Value) (b : List UInt8) (hq : w.heap.size = q) (h2 : t.getD 2 undef = .pointer (some ⟨q, 0, none⟩)) (h3 : t.getD 3 undef = .pointer (some ⟨q + 1, 0, none⟩))
    (hB : Blk W q 27 (mv m s)) (hE : Blk W (q + 1) 22 #[x]) (hb : Below q w W) (hg : Wi.get b = none) (hD : W.heap[D]? = some (.deferred (some []))) (hqD : q + 1 < D) :
    LeavesInM Fence.wide 5 Tryd.prog Tryd.f15 t (GotR w b) [{ target := .collected D, args := #[] }, CL q] (.panicking thrown) W := by
  refine ⟨by simp, .inl ⟨_, _, rfl, run_takeDeferred hD, ?_⟩⟩
  have hfs : Fr (fun k => k = D) W (W.putObj D (.deferred none)) := put_fr _
  exact leave_one w _ q m s x t b hq h2 h3 (hB.fr hfs (by omega)) (hE.fr hfs (by omega)) (hb.trans (hfs.below (by have := hB.lt; omega) fun k hk => by omega)) hg
/-- fieldsOf's iterator, where a round may panic. -/
theorem fields_callX (w : World) (B0 k : Nat) (hk : k < 256) (SB : Nat → Prop) (hT : HasT w) (hSB : ¬ SB B0 ∧ ¬ SB 0) (h0 : w.cell? ⟨B0, 0, none⟩ = some (.int .u8 (k : Int))) :
    CallX Tryd.prog 57 #[.pointer (some ⟨B0, 0, none⟩)] fenc (fun pre x _ => Nxt k pre x) SB w.heap.size (fun xs => xs = flds k) w := by
  intro J Jp W hsz hb hY hJ0
  have l0 := World.block_lt_of_cell? _ _ h0
  dsimp only at l0
  refine CallsIn.mono (fields1_in (w.heap.size + 1) B0 k hk (fun k => SB k ∨ k = w.heap.size + 1) J (fun _ _ => False) Jp W (hT.keep hb) ⟨fun h => h.elim hSB.1 (by omega), fun h => h.elim hSB.2 (by have := hT.pos; omega)⟩ ((hb.cell l0).trans h0) (fun pre f W1 h hx => ?_) hJ0) ?_
  · exact YieldAt.mono (hY pre _ W1 h hx) fun e W' h' => h'.imp (fun h' => h') (fun h' => .inr h')
  · rintro e W' (⟨⟨v, rfl⟩, h | ⟨pre, hx⟩⟩ | ⟨ch, rfl, hp⟩)
    · exact .inl ⟨v, _, rfl, rfl, h⟩
    · exact hx.elim
    · exact .inr ⟨ch, rfl, hp⟩
theorem rnum_len {n : Nat} {l : List UInt8} {q : Nat × List UInt8} (h : rnum n l = some q) : q.2.length ≤ l.length := by
  rw [(rnum_some h).2.2.2, List.length_drop]; omega
theorem cut_len {n : Nat} {l : List UInt8} {q : List UInt8 × List UInt8} (h : Wi.cut n l = some q) : q.1.length + q.2.length = l.length := by
  unfold Wi.cut at h
  split at h
  · injection h with h; subst h; simp; omega
  · cases h
theorem rtxt_len {l : List UInt8} {q : List UInt8 × List UInt8} (h : rtxt l = some q) : q.1.length + q.2.length ≤ l.length := by
  unfold rtxt at h
  rw [Option.bind_eq_some_iff] at h
  obtain ⟨x, h1, h2⟩ := h
  have := rnum_len h1
  have := cut_len h2
  omega
theorem rid_len {l : List UInt8} {q : (List UInt8 × Int) × List UInt8} (h : rid l = some q) : q.1.1.length ≤ l.length ∧ q.2.length + 1 ≤ l.length := by
  unfold rid at h
  rw [Option.bind_eq_some_iff] at h
  obtain ⟨x, h1, h2⟩ := h
  rw [Option.map_eq_some_iff] at h2
  obtain ⟨y, h3, rfl⟩ := h2
  have h4 := rtxt_len h1
  have h5 := rnum_some h3
  have h6 : y.2.length + 8 = x.2.length := by rw [h5.2.2.2, List.length_drop]; have := h5.2.1; omega
  dsimp only
  omega
theorem rids_sz : ∀ {n : Nat} {l : List UInt8} {q : List (List UInt8 × Int) × List UInt8}, rids n l = some q → q.1.length + q.2.length ≤ l.length ∧ ∀ x ∈ q.1, x.1.length ≤ l.length
  | 0, l, q, h => by injection h with h; subst h; exact ⟨by simp, fun x hx => by cases hx⟩
  | n + 1, l, q, h => by
    simp only [rids, Option.bind_eq_some_iff, Option.map_eq_some_iff] at h
    obtain ⟨x, h1, y, h2, rfl⟩ := h
    have h3 := rid_len h1
    have h4 := rids_sz h2
    refine ⟨by simp only [List.length_cons]; omega, fun z hz => ?_⟩
    rcases List.mem_cons.1 hz with rfl | hz
    · exact h3.1
    · have := h4.2 z hz; omega
theorem rnodes_sz : ∀ {n : Nat} {l : List UInt8} {q : List Int × List UInt8}, rnodes n l = some q → q.1.length + q.2.length ≤ l.length
  | 0, l, q, h => by injection h with h; subst h; simp
  | n + 1, l, q, h => by
    simp only [rnodes, Option.bind_eq_some_iff, Option.map_eq_some_iff] at h
    obtain ⟨x, h1, y, h2, rfl⟩ := h
    have h3 := rnum_some h1
    have h4 := rnodes_sz h2
    have h6 : x.2.length + 2 = l.length := by rw [h3.2.2.2, List.length_drop]; have := h3.2.1; omega
    simp only [List.length_cons]; omega
/-- Nothing grows beyond what there was. -/
def Sz (L : Nat) (m : Msg) (l : List UInt8) : Prop := m.ids.length + m.nodes.length + l.length ≤ L ∧ m.key.length ≤ L ∧ m.data.length ≤ L ∧ ∀ x ∈ m.ids, x.1.length ≤ L
theorem rf_sz {L : Nat} {m m1 : Msg} {l l1 : List UInt8} {f : Nat} (hf : f < 11) (h : rf m l f = some (m1, l1)) (hs : Sz L m l) : Sz L m1 l1 ∧ m1.kind = m.kind ∧ (f ≠ 8 → m1.ids = m.ids) ∧ (f ≠ 9 → m1.nodes = m.nodes) ∧ (f ≠ 10 → m1.data = m.data) := by
  obtain ⟨s1, s2, s3, s4⟩ := hs
  have : f = 0 ∨ f = 1 ∨ f = 2 ∨ f = 3 ∨ f = 4 ∨ f = 5 ∨ f = 6 ∨ f = 7 ∨ f = 8 ∨ f = 9 ∨ f = 10 := by omega
  rcases this with rfl | rfl | rfl | rfl | rfl | rfl | rfl | rfl | rfl | rfl | rfl
  · simp only [rf, Option.map_eq_some_iff] at h; obtain ⟨a, h1, h⟩ := h; injection h with h h2; subst h; subst h2; have := rnum_len h1; exact ⟨⟨by dsimp only; omega, s2, s3, s4⟩, rfl, fun _ => rfl, fun _ => rfl, fun _ => rfl⟩
  · simp only [rf, Option.map_eq_some_iff] at h; obtain ⟨a, h1, h⟩ := h; injection h with h h2; subst h; subst h2; have := rtxt_len h1; exact ⟨⟨by dsimp only; omega, by dsimp only; omega, s3, s4⟩, rfl, fun _ => rfl, fun _ => rfl, fun _ => rfl⟩
  · simp only [rf, Option.map_eq_some_iff] at h; obtain ⟨a, h1, h⟩ := h; injection h with h h2; subst h; subst h2; have := rnum_len h1; exact ⟨⟨by dsimp only; omega, s2, s3, s4⟩, rfl, fun _ => rfl, fun _ => rfl, fun _ => rfl⟩
  · simp only [rf, Option.map_eq_some_iff] at h; obtain ⟨a, h1, h⟩ := h; injection h with h h2; subst h; subst h2; have := rnum_len h1; exact ⟨⟨by dsimp only; omega, s2, s3, s4⟩, rfl, fun _ => rfl, fun _ => rfl, fun _ => rfl⟩
  · simp only [rf, Option.map_eq_some_iff] at h; obtain ⟨a, h1, h⟩ := h; injection h with h h2; subst h; subst h2; have := rnum_len h1; exact ⟨⟨by dsimp only; omega, s2, s3, s4⟩, rfl, fun _ => rfl, fun _ => rfl, fun _ => rfl⟩
  · simp only [rf, Option.map_eq_some_iff] at h; obtain ⟨a, h1, h⟩ := h; injection h with h h2; subst h; subst h2; have := rnum_len h1; exact ⟨⟨by dsimp only; omega, s2, s3, s4⟩, rfl, fun _ => rfl, fun _ => rfl, fun _ => rfl⟩
  · simp only [rf, Option.map_eq_some_iff] at h; obtain ⟨a, h1, h⟩ := h; injection h with h h2; subst h; subst h2; have := rnum_len h1; exact ⟨⟨by dsimp only; omega, s2, s3, s4⟩, rfl, fun _ => rfl, fun _ => rfl, fun _ => rfl⟩
  · simp only [rf, Option.bind_eq_some_iff] at h; obtain ⟨a, h1, h⟩ := h; split at h
    · injection h with h; injection h with h h2; subst h; subst h2; have := rnum_len h1; exact ⟨⟨by dsimp only; omega, s2, s3, s4⟩, rfl, fun _ => rfl, fun _ => rfl, fun _ => rfl⟩
    · cases h
  · simp only [rf, Option.bind_eq_some_iff, Option.map_eq_some_iff] at h; obtain ⟨a, h1, b, h3, h⟩ := h; injection h with h h2; subst h; subst h2
    have := rnum_len h1
    have h4 := rids_sz h3
    refine ⟨⟨by dsimp only; rw [List.length_append]; omega, s2, s3, fun x hx => ?_⟩, rfl, fun h => absurd rfl h, fun _ => rfl, fun _ => rfl⟩
    rcases List.mem_append.1 hx with hx | hx
    · exact s4 x hx
    · have := h4.2 x hx; omega
  · simp only [rf, Option.bind_eq_some_iff, Option.map_eq_some_iff] at h; obtain ⟨a, h1, b, h3, h⟩ := h; injection h with h h2; subst h; subst h2
    have := rnum_len h1
    have h4 := rnodes_sz h3
    exact ⟨⟨by dsimp only; rw [List.length_append]; omega, s2, s3, s4⟩, rfl, fun _ => rfl, fun h => absurd rfl h, fun _ => rfl⟩
  · simp only [rf, Option.bind_eq_some_iff, Option.map_eq_some_iff] at h; obtain ⟨a, h1, b, h3, h⟩ := h; injection h with h h2; subst h; subst h2
    have := rnum_len h1
    have h4 := cut_len h3
    exact ⟨⟨by dsimp only; omega, s2, by dsimp only; omega, s4⟩, rfl, fun _ => rfl, fun _ => rfl, fun h => absurd rfl h⟩
theorem flds_nodup (k : Nat) : (flds k).Nodup := by
  by_cases h : k < 21
  · have : ∀ k < 21, (flds k).Nodup := by decide
    exact this k h
  · rw [flds_over (by simp [isK]; omega)]; exact List.nodup_nil
theorem nxt_new {k : Nat} {pre : List Nat} {x : Nat} (h : Nxt k pre x) : x ∉ pre := by
  obtain ⟨_, r, hr⟩ := h
  have h1 := flds_nodup k
  rw [← hr, List.nodup_append] at h1
  intro hx
  exact h1.2.2 x hx x (by simp) rfl
theorem rfs_none {pre r : List Nat} {f : Nat} {m m2 : Msg} {l l2 : List UInt8} (h2 : rfs pre m l = some (m2, l2)) (h3 : rf m2 l2 f = none) : rfs (pre ++ f :: r) m l = none := by
  rw [rfs_app, h2, Option.bind_some]
  show (rf m2 l2 f).bind _ = none
  rw [h3]; rfl
theorem rfs_one {pre : List Nat} {f : Nat} {m m2 m3 : Msg} {l l2 l3 : List UInt8} (h2 : rfs pre m l = some (m2, l2)) (h3 : rf m2 l2 f = some (m3, l3)) : rfs (pre ++ [f]) m l = some (m3, l3) := by
  rw [rfs_app, h2, Option.bind_some]
  show (rf m2 l2 f).bind _ = _
  rw [h3]; rfl
/-- What is told of a message's rows that have not been read. -/
def Frs (pre : List Nat) (m : Msg) (s : Sl) : Prop := (8 ∉ pre → m.ids = [] ∧ s.ia = none ∧ s.ic = 0) ∧ (9 ∉ pre → m.nodes = [] ∧ s.na = none ∧ s.nc = 0) ∧ (10 ∉ pre → m.data = [] ∧ s.da = none ∧ s.dk = 0)
theorem Frs.fresh {pre : List Nat} {m : Msg} {s : Sl} {f : Nat} (h : Frs pre m s) (hf : f ∉ pre) : Fresh f m s := ⟨fun e => h.1 (e ▸ hf), fun e => h.2.1 (e ▸ hf), fun e => h.2.2 (e ▸ hf)⟩
theorem Frs.next {pre : List Nat} {m m1 : Msg} {s s1 : Sl} {f : Nat} (h : Frs pre m s) (hk : Kept f s s1) (h8 : f ≠ 8 → m1.ids = m.ids) (h9 : f ≠ 9 → m1.nodes = m.nodes) (h10 : f ≠ 10 → m1.data = m.data) : Frs (pre ++ [f]) m1 s1 := by
  refine ⟨fun hn => ?_, fun hn => ?_, fun hn => ?_⟩
  · have hf : f ≠ 8 := fun e => hn (by rw [e]; simp)
    have hp := h.1 fun hx => hn (by simp [hx])
    exact ⟨(h8 hf).trans hp.1, (hk.1 hf).1.trans hp.2.1, (hk.1 hf).2.trans hp.2.2⟩
  · have hf : f ≠ 9 := fun e => hn (by rw [e]; simp)
    have hp := h.2.1 fun hx => hn (by simp [hx])
    exact ⟨(h9 hf).trans hp.1, (hk.2.1 hf).1.trans hp.2.1, (hk.2.1 hf).2.trans hp.2.2⟩
  · have hf : f ≠ 10 := fun e => hn (by rw [e]; simp)
    have hp := h.2.2 fun hx => hn (by simp [hx])
    exact ⟨(h10 hf).trans hp.1, (hk.2.2 hf).1.trans hp.2.1, (hk.2.2 hf).2.trans hp.2.2⟩
theorem RowsO.frB {S : Nat → Prop} {w w' : World} {B : Nat} {m : Msg} {s : Sl} (h : RowsO w B m s) (hf : Fr S w w') (hS : ∀ k, S k → k < B) : RowsO w' B m s :=
  h.fr hf fun k hk => ⟨fun n A c xs ho g hg e => by
    rcases ho.form with ⟨e1, _⟩ | ⟨g2, e1, hb, _⟩
    · rw [e1] at hg; cases hg
    · rw [e1] at hg; injection hg with hg; injection hg with hg; have := hS k hk; omega, fun A c xs T hT ho g hg e => by
    rcases ho.form with ⟨e1, _⟩ | ⟨g2, e1, hb, _⟩
    · rw [e1] at hg; cases hg
    · rw [e1] at hg; injection hg with hg; injection hg with hg; have := hS k hk; omega⟩
theorem RowsO.keep {w w' : World} {B : Nat} {m : Msg} {s : Sl} (h : RowsO w B m s) (hb : Below w.heap.size w w') : RowsO w' B m s := ⟨h.1.keep hb, h.2.1.keep hb, h.2.2.keep hb⟩
theorem RowsO.down {w : World} {B B' : Nat} {m : Msg} {s : Sl} (h : RowsO w B m s) (hb : B' ≤ B) : RowsO w B' m s := ⟨h.1.down hb, h.2.1.down hb, h.2.2.down hb⟩
/-- Get's state ahead of its loop, and within it. -/
def GetK (w : World) (q : Nat) (m : Msg) (l : List UInt8) (s : Sl) (W : World) : Prop := Rd W q (q + 2) l ∧ Blk W q 27 (mv m s) ∧ Blk W (q + 3) 71 #[.pointer (some ⟨q + 2, 0, none⟩)] ∧ Blk W (q + 1) 22 #[.int .i64 0] ∧ Below q w W
theorem GetK.fr {w W W' : World} {q : Nat} {m : Msg} {l : List UInt8} {s : Sl} {S : Nat → Prop} (h : GetK w q m l s W) (hf : Fr S W W') (hS : ∀ k, S k → q + 4 ≤ k) : GetK w q m l s W' := by
  obtain ⟨h2, h3, h4, h5, h6⟩ := h
  have e : q ≤ W.heap.size := by have := h3.lt; omega
  exact ⟨h2.fr hf (fun k hk => by have := hS k hk; omega) (fun h => by have := hS _ h; omega), h3.fr hf (fun h => by have := hS _ h; omega), h4.fr hf (fun h => by have := hS _ h; omega), h5.fr hf (fun h => by have := hS _ h; omega), h6.trans (hf.below e fun k hk => by have := hS k hk; omega)⟩
def GetJ (w : World) (q D L : Nat) (m0 : Msg) (r0 : List UInt8) (pre : List Nat) (W : World) : Prop :=
  ∃ m l s, rfs pre m0 r0 = some (m, l) ∧ GetK w q m l s W ∧ RowsO W (D + 2) m s ∧ D + 2 ≤ W.heap.size ∧ Frs pre m s ∧ Sz L m l ∧ m.kind = m0.kind
/-- What a panic leaves. -/
def GetP (w : World) (q : Nat) (b : List UInt8) (ch : List PanicEntry) (W : World) : Prop := ch = thrown ∧ Wi.get b = none ∧ (∃ m s, Blk W q 27 (mv m s)) ∧ Blk W (q + 1) 22 #[.int .i64 0] ∧ Below q w W
/-- The blocks at Get's start. -/
def Bs (w : World) (q : Nat) (W : World) : Prop := Blk W q 27 (mv mz s0) ∧ Blk W (q + 1) 22 #[.int .i64 0] ∧ Below q w W ∧ q ≤ W.heap.size
theorem Bs.fr {w W W' : World} {q : Nat} (h : Bs w q W) (hf : Fr (fun k => k = q + 2) W W') : Bs w q W' :=
  ⟨h.1.fr hf (by omega), h.2.1.fr hf (by omega), h.2.2.1.trans (hf.below h.2.2.2 fun k hk => by omega), Nat.le_trans h.2.2.2 hf.size⟩
set_option maxRecDepth 100000 in
set_option maxHeartbeats 16000000 in
theorem get_any (w : World) (A : Option Addr) (b : List UInt8) (n c : Nat) (hn : n = b.length) (hnc : n ≤ c) (hcc : c ≤ 9223372036854775807) (hA : Bytes w w.heap.size A b) (hT : HasT w) (hbl : b.length ≤ 1000000) :
    Calls Tryd.prog 15 #[.slice A n c] w (GotR w b) := by
  subst hn
  have hmf : ∀ (fn : Fn) (first cap : Array Value) (w : World), (Instr.makeFunc fn first cap).run Tryd.prog w = .ok (.func fn first cap) w := fun _ _ _ _ => rfl
  have hbd : ∀ (W : World) (A : Option Addr) (n c : Nat), (Instr.build 73 #[(0, .slice A n c)]).run Tryd.prog W = .ok (.agg #[.slice A n c]) W := fun W A n c => by kernel_rfl
  obtain ⟨q, hq⟩ : ∃ q, w.heap.size = q := ⟨_, rfl⟩
  obtain ⟨w2, hw2⟩ : ∃ w2 : World, ((((w.alloc (.cells #[.int .u8 0, .int .i64 0, .int .i64 0, .int .i64 0, .string { data := #[] }, .int .i64 0, .int .i64 0, .int .i64 0, .int .i64 0, .int .i64 0, .bool false, .slice none 0 0, .slice none 0 0, .slice none 0 0] 27)).alloc (.cells #[.int .i64 0] 22)).alloc (.cells #[.slice A b.length c] 73)).alloc (.cells #[.pointer (some ⟨q + 2, 0, none⟩)] 71)) = w2 := ⟨_, rfl⟩
  have hb2 : Below w.heap.size w w2 := by rw [← hw2]; exact nextA (nextA (nextA (nextA (Mem.start w) _) _) _) _
  have HQ2 := Lib.hid (show Blk w2 q 27 #[.int .u8 0, .int .i64 0, .int .i64 0, .int .i64 0, .string { data := #[] }, .int .i64 0, .int .i64 0, .int .i64 0, .int .i64 0, .int .i64 0, .bool false, .slice none 0 0, .slice none 0 0, .slice none 0 0] ∧ Blk w2 (q + 1) 22 #[.int .i64 0] ∧ Blk w2 (q + 2) 73 #[.slice A b.length c] ∧ Blk w2 (q + 3) 71 #[.pointer (some ⟨q + 2, 0, none⟩)] by
    rw [← hw2, ← hq]
    refine ⟨?_, ?_, ?_, ?_⟩
    · exact (((Blk.new w _ _).keep (nextA (Mem.start _) _)).keep (nextA (Mem.start _) _)).keep (nextA (Mem.start _) _)
    · have := ((Blk.new (w.alloc (.cells #[.int .u8 0, .int .i64 0, .int .i64 0, .int .i64 0, .string { data := #[] }, .int .i64 0, .int .i64 0, .int .i64 0, .int .i64 0, .int .i64 0, .bool false, .slice none 0 0, .slice none 0 0, .slice none 0 0] 27)) 22 #[.int .i64 0]).keep (nextA (Mem.start _) (.cells #[.slice A b.length c] 73))).keep (nextA (Mem.start _) (.cells #[.pointer (some ⟨w.heap.size + 2, 0, none⟩)] 71))
      rw [World.size_alloc] at this; exact this
    · have := (Blk.new ((w.alloc (.cells #[.int .u8 0, .int .i64 0, .int .i64 0, .int .i64 0, .string { data := #[] }, .int .i64 0, .int .i64 0, .int .i64 0, .int .i64 0, .int .i64 0, .bool false, .slice none 0 0, .slice none 0 0, .slice none 0 0] 27)).alloc (.cells #[.int .i64 0] 22)) 73 #[.slice A b.length c]).keep (nextA (Mem.start _) (.cells #[.pointer (some ⟨w.heap.size + 2, 0, none⟩)] 71))
      rw [World.size_alloc, World.size_alloc] at this; exact this
    · have := Blk.new (((w.alloc (.cells #[.int .u8 0, .int .i64 0, .int .i64 0, .int .i64 0, .string { data := #[] }, .int .i64 0, .int .i64 0, .int .i64 0, .int .i64 0, .int .i64 0, .bool false, .slice none 0 0, .slice none 0 0, .slice none 0 0] 27)).alloc (.cells #[.int .i64 0] 22)).alloc (.cells #[.slice A b.length c] 73)) 71 #[.pointer (some ⟨w.heap.size + 2, 0, none⟩)]
      rw [World.size_alloc, World.size_alloc, World.size_alloc] at this; exact this)
  have HB2 := Lib.hid (show Below q w w2 ∧ w2.heap.size = q + 4 ∧ q = w.heap.size by rw [← hq]; exact ⟨hb2, by rw [← hw2]; simp, rfl⟩)
  have HR2 := Lib.hid (show Rd w2 q (q + 2) b from ⟨by omega, A, c, HQ2.out.2.2.1, by rw [← hq]; exact hA.below hb2, hnc, hcc⟩)
  have HT := Lib.hid (And.intro hT hT.pos)
  have HL := Lib.hid hbl
  have HZ2 := Lib.hid (show Bs w q w2.drew from ⟨HQ2.out.1.keep (nextN (Mem.start _) 1), HQ2.out.2.1.keep (nextN (Mem.start _) 1), HB2.out.1.trans ⟨rfl, rfl, rfl, Nat.le_refl _, fun _ _ => rfl⟩, by show q ≤ w2.heap.size; have := HB2.out.2.1; omega⟩)
  clear hb2 hA hT hbl hnc hcc
  refine of_wide ?_
  refine calls_of_wpAt Tryd.func15 rfl ?_
  simp only [Tryd.ntmps15, List.size_toArray, List.length_cons, List.length_nil, Nat.reduceAdd, Nat.reduceSub, Array.replicate_succ, Array.replicate_zero, List.push_toArray, List.append_toArray, List.nil_append, List.cons_append]
  refine wpAt_seq1 ?_
  go_wp2_with fail
  refine wpAt_seq1 ?_
  go_wp2_with fail
  refine wpAt_seq1 ?_
  go_wp2_with fail
  refine wpAt_seq1 ?_
  have HW2 := Lib.hid hw2
  clear hbd hw2 hmf
  refine wp_region_panR [CL q] (.pointer (some ⟨q, 0, none⟩)) (.pointer (some ⟨q + 1, 0, none⟩)) (GetP w q b) (fun ch a' w' hd h2 h3 hp => ?pan) ?_
  case pan =>
    obtain ⟨rfl, hg, ⟨m, s, hB⟩, hE, hb⟩ := hp
    show LeavesInM Fence.wide 5 Tryd.prog Tryd.f15 a'.tmps (GotR w b) a'.defers (.panicking thrown) w'
    rw [hd]
    exact leave_one w _ q m s _ a'.tmps b hq h2 h3 hB hE hb hg
  refine wp_heldG (fun V => Blk V (q + 3) 71 #[.pointer (some ⟨q + 2, 0, none⟩)]) [] (by kernel_rfl) ?hs0 ?rg0
  case hs0 =>
    exact HQ2.out.2.2.2.keep (nextN (Mem.start _) 1)
  case rg0 =>
  intro hHeld
  refine wpAnyG_take (i := 0) (oi := ⟨some 10, .load 71 (.tmp 4), 71, _, #[], none⟩) (v := ?_) rfl (by kernel_rfl) (by kernel_rfl) (by kernel_rfl) (by kernel_rfl) (fun _ _ _ h => panR_put (by decide) h) (Or.inl ⟨by rfl, ?_⟩) (by assumption) ?_
  rotate_left
  · intro w hSw
    try dsimp only at hSw
    have hk := hSw.cell 0
    simp at hk
    go_simp
    try with_reducible rfl
  try simp only [Act.put, List.setIfInBounds_toArray, List.set_cons_zero, List.set_cons_succ]
  refine wpAnyG_take (i := 3) (oi := ⟨some 13, .load 71 (.tmp 4), 71, _, #[], none⟩) (v := ?_) rfl (by kernel_rfl) (by kernel_rfl) (by kernel_rfl) (by kernel_rfl) (fun _ _ _ h => panR_put (by decide) h) (Or.inl ⟨by rfl, ?_⟩) (by assumption) ?_
  rotate_left
  · intro w hSw
    try dsimp only at hSw
    have hk := hSw.cell 0
    simp at hk
    go_simp
    try with_reducible rfl
  try simp only [Act.put, List.setIfInBounds_toArray, List.set_cons_zero, List.set_cons_succ]
  refine wpAnyG_take (i := 5) (oi := ⟨some 15, .load 71 (.tmp 4), 71, _, #[], none⟩) (v := ?_) rfl (by kernel_rfl) (by kernel_rfl) (by kernel_rfl) (by kernel_rfl) (fun _ _ _ h => panR_put (by decide) h) (Or.inl ⟨by rfl, ?_⟩) (by assumption) ?_
  rotate_left
  · intro w hSw
    try dsimp only at hSw
    have hk := hSw.cell 0
    simp at hk
    go_simp
    try with_reducible rfl
  try simp only [Act.put, List.setIfInBounds_toArray, List.set_cons_zero, List.set_cons_succ]
  refine onG 1 ⟨some 11, .call { callee := Callee.value (Operand.func 35), args := #[.tmp 10, Operand.const (Value.int IntKind.i64 1)], argTypes := #[71, 3] }, 2, _, #[⟨0, .data⟩], none⟩ (fun K hK => ?_)
  go_simp
  refine (number_any _ q (q + 2) 1 _ (HR2.out.keep (nextN (Mem.start _) 1)) (by decide)).mono ?_
  rintro e w4 he
  rcases h1 : rnum 1 b with _ | ⟨n1, r1⟩
  · rw [h1] at he
    obtain ⟨hf, rfl⟩ := he
    have hz := HZ2.out.fr hf
    exact ⟨rfl, ⟨rfl, rfl⟩, rfl, by unfold Wi.get rall rhead; simp only [h1]; rfl, ⟨_, _, hz.1⟩, hz.2.1, hz.2.2.1⟩
  rw [h1] at he
  obtain ⟨hf, rfl, hr1⟩ := he
  dsimp only [Option.map_some] at hr1 ⊢
  have hn := (rnum_some h1).1
  dsimp only at hn
  rw [sgn_small (show n1 < 9223372036854775808 by omega)]
  have HZ3 := Lib.hid (HZ2.out.fr hf)
  have HD1 := Lib.hid hr1
  have HHA := Lib.hid (And.intro h1 (show n1 < 65536 by omega))
  have hwk : IntKind.u8.wrap (n1 : Int) = (n1 : Int) := by
    have e : ∀ x : Int, IntKind.u8.wrap x = x % 256 := fun _ => rfl
    rw [e]; omega
  have HK1 := Lib.hid (show n1 < 256 by omega)
  clear hr1 hn h1
  refine hK.out _ _ ?_ (fun hHeld => ?_)
  · intro _
    try dsimp only
    exact hHeld.fr hf (by omega)
  clear hK K
  try simp only [Act.put, List.setIfInBounds_toArray, List.set_cons_zero, List.set_cons_succ]
  have hHeld := hHeld (by kernel_rfl)
  refine wpAnyG_pure (i := 2) (oi := ⟨some 12, .convert 2 5 (.tmp 11), 5, _, #[⟨1, .data⟩], none⟩) (v := ?_) rfl (by kernel_rfl) (by kernel_rfl) (by kernel_rfl) (by kernel_rfl) (fun _ _ _ h => panR_put (by decide) h) (Or.inl ⟨by rfl, ?_⟩) (fun _ => by assumption) ?_
  rotate_left
  · intro w hSw
    try dsimp only at hSw
    go_simp
    try with_reducible rfl
  try simp only [Act.put, List.setIfInBounds_toArray, List.set_cons_zero, List.set_cons_succ]
  refine onG 4 ⟨some 14, .call { callee := Callee.value (Operand.func 35), args := #[.tmp 13, Operand.const (Value.int IntKind.i64 2)], argTypes := #[71, 3] }, 2, _, #[⟨3, .data⟩, ⟨1, .chain⟩], none⟩ (fun K hK => ?_)
  go_simp
  refine (number_any _ q (q + 2) 2 _ (HD1.out) (by decide)).mono ?_
  rintro e w5 he
  rcases h1 : rnum 2 r1 with _ | ⟨n2, r2⟩
  · rw [h1] at he
    obtain ⟨hf, rfl⟩ := he
    have hz := HZ3.out.fr hf
    exact ⟨rfl, ⟨rfl, rfl⟩, rfl, by unfold Wi.get rall rhead; simp only [HHA.out.1, Option.bind_some, h1]; rfl, ⟨_, _, hz.1⟩, hz.2.1, hz.2.2.1⟩
  rw [h1] at he
  obtain ⟨hf, rfl, hr2⟩ := he
  dsimp only [Option.map_some] at hr2 ⊢
  have hn := (rnum_some h1).1
  dsimp only at hn
  rw [sgn_small (show n2 < 9223372036854775808 by omega)]
  have HZ4 := Lib.hid (HZ3.out.fr hf)
  have HD2 := Lib.hid hr2
  have HHB := Lib.hid (And.intro h1 (show n2 < 65536 by omega))
  clear hr2 hn h1
  refine hK.out _ _ ?_ (fun hHeld => ?_)
  · intro _
    try dsimp only
    exact hHeld.fr hf (by omega)
  clear hK K
  try simp only [Act.put, List.setIfInBounds_toArray, List.set_cons_zero, List.set_cons_succ]
  have hHeld := hHeld (by kernel_rfl)
  refine onG 6 ⟨some 16, .call { callee := Callee.value (Operand.func 35), args := #[.tmp 15, Operand.const (Value.int IntKind.i64 2)], argTypes := #[71, 3] }, 2, _, #[⟨5, .data⟩, ⟨4, .chain⟩], none⟩ (fun K hK => ?_)
  go_simp
  refine (number_any _ q (q + 2) 2 _ (HD2.out) (by decide)).mono ?_
  rintro e w6 he
  rcases h1 : rnum 2 r2 with _ | ⟨n3, r0⟩
  · rw [h1] at he
    obtain ⟨hf, rfl⟩ := he
    have hz := HZ4.out.fr hf
    exact ⟨rfl, ⟨rfl, rfl⟩, rfl, by unfold Wi.get rall rhead; simp only [HHA.out.1, HHB.out.1, Option.bind_some, h1]; rfl, ⟨_, _, hz.1⟩, hz.2.1, hz.2.2.1⟩
  rw [h1] at he
  obtain ⟨hf, rfl, hr3⟩ := he
  dsimp only [Option.map_some] at hr3 ⊢
  have hn := (rnum_some h1).1
  dsimp only at hn
  rw [sgn_small (show n3 < 9223372036854775808 by omega)]
  have HZ5 := Lib.hid (HZ4.out.fr hf)
  have HD3 := Lib.hid hr3
  have HHC := Lib.hid (And.intro h1 (show n3 < 65536 by omega))
  clear hr3 hn h1
  refine hK.out _ _ ?_ (fun hHeld => ?_)
  · intro _
    try dsimp only
    exact hHeld.fr hf (by omega)
  clear hK K
  try simp only [Act.put, List.setIfInBounds_toArray, List.set_cons_zero, List.set_cons_succ]
  have hHeld := hHeld (by kernel_rfl)
  refine wpAnyG_pure (i := 7) (oi := ⟨some 17, .fieldAddr 27 (.tmp 2) 0, 0, _, #[⟨0, .phase⟩, ⟨1, .phase⟩, ⟨2, .phase⟩, { on := 3, ground := Ground.textOnly Departure.lateStoresUnsure }, ⟨4, .phase⟩, { on := 5, ground := Ground.textOnly Departure.lateStoresUnsure }, ⟨6, .phase⟩], none⟩) (v := ?_) rfl (by kernel_rfl) (by kernel_rfl) (by kernel_rfl) (by kernel_rfl) (fun _ _ _ h => panR_put (by decide) h) (Or.inl ⟨by rfl, ?_⟩) (fun _ => by assumption) ?_
  rotate_left
  · intro w hSw
    try dsimp only at hSw
    go_simp
    try with_reducible rfl
  try simp only [Act.put, List.setIfInBounds_toArray, List.set_cons_zero, List.set_cons_succ]
  refine onG 8 ⟨none, .store 5 (.tmp 17) (.tmp 12), 0, _, #[⟨7, .data⟩, ⟨2, .data⟩, ⟨6, .chain⟩, ⟨0, .phase⟩, ⟨1, .phase⟩, ⟨2, .phase⟩, { on := 3, ground := Ground.textOnly Departure.lateStoresUnsure }, ⟨4, .phase⟩, { on := 5, ground := Ground.textOnly Departure.lateStoresUnsure }, ⟨6, .phase⟩], none⟩ (fun K hK => ?_)
  have z0 := HZ5.out.1.frozen 0
  have c0 := HZ5.out.1.cell 0
  simp [mv] at c0
  go_simp
  try dsimp only
  refine hK.out _ _ ?_ (fun hHeld => ?_)
  · intro _
    try dsimp only
    exact hHeld.fr (Fr.setCell (S := fun k => k = q) (Fr.refl _ _) (p := ⟨q, 0, none⟩) (fun _ => rfl) _) (by omega)
  clear hK K
  try simp only [Act.put, List.setIfInBounds_toArray, List.set_cons_zero, List.set_cons_succ]
  have hHeld := hHeld (by kernel_rfl)
  refine wpAnyG_pure (i := 9) (oi := ⟨some 18, .fieldAddr 27 (.tmp 2) 1, 0, _, #[⟨0, .phase⟩, ⟨1, .phase⟩, ⟨2, .phase⟩, ⟨3, .phase⟩, ⟨4, .phase⟩, { on := 5, ground := Ground.textOnly Departure.lateStoresUnsure }, ⟨6, .phase⟩, ⟨7, .phase⟩, ⟨8, .phase⟩], none⟩) (v := ?_) rfl (by kernel_rfl) (by kernel_rfl) (by kernel_rfl) (by kernel_rfl) (fun _ _ _ h => panR_put (by decide) h) (Or.inl ⟨by rfl, ?_⟩) (fun _ => by assumption) ?_
  rotate_left
  · intro w hSw
    try dsimp only at hSw
    go_simp
    try with_reducible rfl
  try simp only [Act.put, List.setIfInBounds_toArray, List.set_cons_zero, List.set_cons_succ]
  refine onG 10 ⟨none, .store 3 (.tmp 18) (.tmp 14), 0, _, #[⟨9, .data⟩, ⟨4, .data⟩, ⟨8, .chain⟩, ⟨0, .phase⟩, ⟨1, .phase⟩, ⟨2, .phase⟩, ⟨3, .phase⟩, ⟨4, .phase⟩, { on := 5, ground := Ground.textOnly Departure.lateStoresUnsure }, ⟨6, .phase⟩, ⟨7, .phase⟩, ⟨8, .phase⟩], none⟩ (fun K hK => ?_)
  have z0 := (HZ5.out.1.set_ 0 (.int .u8 (n1 : Int))).frozen 1
  have c0 := (HZ5.out.1.set_ 0 (.int .u8 (n1 : Int))).cell 1
  simp [mv] at c0
  go_simp
  try dsimp only
  refine hK.out _ _ ?_ (fun hHeld => ?_)
  · intro _
    try dsimp only
    exact hHeld.fr (Fr.setCell (S := fun k => k = q) (Fr.refl _ _) (p := ⟨q, 1, none⟩) (fun _ => rfl) _) (by omega)
  clear hK K
  try simp only [Act.put, List.setIfInBounds_toArray, List.set_cons_zero, List.set_cons_succ]
  have hHeld := hHeld (by kernel_rfl)
  refine wpAnyG_pure (i := 11) (oi := ⟨some 19, .fieldAddr 27 (.tmp 2) 2, 0, _, #[⟨0, .phase⟩, ⟨1, .phase⟩, ⟨2, .phase⟩, ⟨3, .phase⟩, ⟨4, .phase⟩, ⟨5, .phase⟩, ⟨6, .phase⟩, ⟨7, .phase⟩, ⟨8, .phase⟩, ⟨9, .phase⟩, ⟨10, .phase⟩], none⟩) (v := ?_) rfl (by kernel_rfl) (by kernel_rfl) (by kernel_rfl) (by kernel_rfl) (fun _ _ _ h => panR_put (by decide) h) (Or.inl ⟨by rfl, ?_⟩) (fun _ => by assumption) ?_
  rotate_left
  · intro w hSw
    try dsimp only at hSw
    go_simp
    try with_reducible rfl
  try simp only [Act.put, List.setIfInBounds_toArray, List.set_cons_zero, List.set_cons_succ]
  refine onG 12 ⟨none, .store 3 (.tmp 19) (.tmp 16), 0, _, #[⟨11, .data⟩, ⟨6, .data⟩, ⟨10, .chain⟩, ⟨0, .phase⟩, ⟨1, .phase⟩, ⟨2, .phase⟩, ⟨3, .phase⟩, ⟨4, .phase⟩, ⟨5, .phase⟩, ⟨6, .phase⟩, ⟨7, .phase⟩, ⟨8, .phase⟩, ⟨9, .phase⟩, ⟨10, .phase⟩], none⟩ (fun K hK => ?_)
  have z0 := ((HZ5.out.1.set_ 0 (.int .u8 (n1 : Int))).set_ 1 (.int .i64 (n2 : Int))).frozen 2
  have c0 := ((HZ5.out.1.set_ 0 (.int .u8 (n1 : Int))).set_ 1 (.int .i64 (n2 : Int))).cell 2
  simp [mv] at c0
  go_simp
  try dsimp only
  refine hK.out _ _ ?_ (fun hHeld => ?_)
  · intro _
    try dsimp only
    exact hHeld.fr (Fr.setCell (S := fun k => k = q) (Fr.refl _ _) (p := ⟨q, 2, none⟩) (fun _ => rfl) _) (by omega)
  clear hK K
  try simp only [Act.put, List.setIfInBounds_toArray, List.set_cons_zero, List.set_cons_succ]
  have hHeld := hHeld (by kernel_rfl)
  refine wpAnyG_done (by kernel_rfl) ?_ _
  refine PanR.normal ?_
  have HH3 := Lib.hid hHeld
  clear hHeld
  obtain ⟨w7, hw7⟩ : ∃ x : World, ((w6.setCell ⟨q, 0, none⟩ (.int .u8 (n1 : Int))).setCell ⟨q, 1, none⟩ (.int .i64 (n2 : Int))).setCell ⟨q, 2, none⟩ (.int .i64 (n3 : Int)) = x := ⟨_, rfl⟩
  have hf7 : Fr (fun k => k = q) w6 w7 := by
    rw [← hw7]
    exact Fr.setCell (S := fun k => k = q) (Fr.setCell (S := fun k => k = q) (Fr.setCell (S := fun k => k = q) (w' := w6) (Fr.refl _ w6) (p := ⟨q, 0, none⟩) (fun _ => rfl) _) (p := ⟨q, 1, none⟩) (fun _ => rfl) _) (p := ⟨q, 2, none⟩) (fun _ => rfl) _
  obtain ⟨m0, hm0⟩ : ∃ m0, msg0 n1 (n2 : Int) (n3 : Int) = m0 := ⟨_, rfl⟩
  have HI7 := Lib.hid (show GetK w q m0 r0 s0 w7 from ⟨HD3.out.fr hf7 (fun k hk => by omega) (by omega), by
    rw [← hw7, ← hm0]
    have := ((HZ5.out.1.set_ 0 (.int .u8 (n1 : Int))).set_ 1 (.int .i64 (n2 : Int))).set_ 2 (.int .i64 (n3 : Int))
    exact this, by rw [← hw7]; exact HH3.out, HZ5.out.2.1.fr hf7 (by omega), HZ5.out.2.2.1.trans (hf7.below HZ5.out.2.2.2 fun k hk => by omega)⟩)
  have HM0 := Lib.hid (show m0.kind = n1 ∧ m0.ids = [] ∧ m0.nodes = [] ∧ m0.data = [] ∧ Sz 1000000 m0 r0 by
    have l1 := rnum_len HHA.out.1
    have l2 := rnum_len HHB.out.1
    have l3 := rnum_len HHC.out.1
    dsimp only at l1 l2 l3
    rw [← hm0]
    exact ⟨rfl, rfl, rfl, rfl, by have := HL.out; simp [msg0]; omega, by simp [msg0], by simp [msg0], fun x hx => by cases hx⟩)
  have HG := Lib.hid (show ∀ o, rfs (flds n1) m0 r0 = o → Wi.get b = o.bind fun p => if p.2.length = 0 ∧ may p.1 = true then some p.1 else none from fun o ho => by
    unfold Wi.get rall rhead
    simp only [HHA.out.1, HHB.out.1, HHC.out.1, Option.bind_some, Option.map_some, hm0]
    rw [show m0.kind = n1 from HM0.out.1, ho])
  have c0 : w7.cell? ⟨q, 0, none⟩ = some (.int .u8 (n1 : Int)) := by
    have := HI7.out.2.1.cell 0
    rw [this]; rw [← hm0]; rfl
  rw [hw7]
  clear hf7 hw7 hm0
  go_wp2_with fail
  refine wpAt_seq ?_
  refine wpAt_seq1 ?_
  go_wp2_with fail
  refine (fieldsOf_any w7 n1).mono ?_
  rintro e w8 ⟨rfl, hw8⟩
  obtain ⟨kb, hkb⟩ : ∃ kb, w7.heap.size = kb := ⟨_, rfl⟩
  have hb8 : Below w7.heap.size w7 w8 := by rw [← hw8]; exact nextA (Mem.start w7) _
  have HS8 := Lib.hid (show w8.heap.size = kb + 1 ∧ q + 3 < kb ∧ 0 < q by
    refine ⟨by rw [← hw8, World.size_alloc, hkb], ?_, by have := HT.out.2; have := HB2.out.2.2; omega⟩
    rw [← hkb]; exact HI7.out.2.2.1.lt)
  have HC8 := Lib.hid (show w8.cell? ⟨kb, 0, none⟩ = some (.int .u8 (n1 : Int)) by rw [← hw8, ← hkb, new_cell]; rfl)
  have HI8 := Lib.hid (HI7.out.fr (Fr.quiet (S := fun _ => False) hb8) (fun _ h => h.elim))
  have HT8 := Lib.hid (show HasT w8 from fun k hk => by
    have h := HI8.out.2.2.2.2
    exact (h.cell (by have := HS8.out; dsimp only; omega)).trans (HT.out.1 k hk))
  rw [hkb]
  clear hw8 hb8 hkb c0
  go_wp2_with fail
  refine wpAt_block ?_
  refine wpAt_rangeX Tryd.func15 (gf := 57) (lb := #[.pointer (some ⟨kb, 0, none⟩)]) (encs := fun f : Nat => #[.int .u16 (bit f)]) rfl (enters_of Tryd.func57 (by kernel_rfl) rfl) (fun _ => rfl)
    (fun pre W' => GetJ w q (kb + 1) 1000000 m0 r0 pre W') (fun ch W' => GetP w q b ch W') (fun pre x W1 => Nxt n1 pre x) (fun k => k = q + 2 ∨ k = q) (S := fun xs => xs = flds n1) ?hsb
    (fields_callX w8 kb n1 HK1.out _ HT8.out (by have := HS8.out; omega) HC8.out)
    ?hI ?hLX ?h0 ?round ?done ?hpan
  case hsb => rw [HS8.out.1]; have := HS8.out; omega
  case hI =>
    rintro pre W1 W2 ⟨m, l, s, h1, h2, h3, h4, h5, h6⟩ hf
    rw [HS8.out.1] at hf
    exact ⟨m, l, s, h1, h2.fr hf (fun k h => by have := HS8.out; omega), h3.frB hf (fun k h => by omega), Nat.le_trans h4 hf.size, h5, h6⟩
  case hLX => exact fun pre x W1 W2 h hf => h
  case h0 =>
    intro W1 hb hsz
    rw [HS8.out.1] at hsz
    refine ⟨m0, r0, s0, rfl, HI8.out.fr (Fr.quiet (S := fun _ => False) hb) (fun _ h => h.elim), ?_, by omega, ?_, HM0.out.2.2.2.2, rfl⟩
    · refine ⟨?_, ?_, ?_⟩
      · rw [HM0.out.2.1]; exact OwnK.nil
      · rw [HM0.out.2.2.1]; exact Own.nil
      · rw [HM0.out.2.2.2.1]; exact Own.nil
    · exact ⟨fun _ => ⟨HM0.out.2.1, rfl, rfl⟩, fun _ => ⟨HM0.out.2.2.1, rfl, rfl⟩, fun _ => ⟨HM0.out.2.2.2.1, rfl, rfl⟩⟩
  case round =>
    rintro lp pre x W1 hI1 hx1
    gi_wp2
    refine ⟨trivial, ?_⟩
    clear hI1 hx1
    rintro W2 hI2 hx
    obtain ⟨m, l, s, h1, h2, h3, h4, h5, h6, h7⟩ := hI2
    have HX := Lib.hid (And.intro hx (And.intro h1 (And.intro h5 (And.intro h6 h7))))
    have HY := Lib.hid (And.intro h2 (And.intro h3 h4))
    have c4 := h2.2.2.1.cell 0
    simp at c4
    rw [show q + 3 = q + 1 + 1 + 1 from rfl] at c4
    clear h1 h2 h3 h4 h5 h6 h7 hx
    gi_wp2
    refine (wideR (getAny W2 q (kb + 1 + 2) (q + 2) q m s l x HX.out.1.1 HY.out.1.1 HY.out.1.2.1 HY.out.2.1 HY.out.2.2 ⟨Nat.le_refl _, by omega⟩ (HX.out.2.2.1.fresh (nxt_new HX.out.1)) (by have := HX.out.2.2.2.1.1; omega))).mono ?_
    rintro e w9 ⟨hf9, h9⟩
    have hle : q ≤ W2.heap.size := by have := HY.out.1.2.1.lt; omega
    have hE9 := HY.out.1.2.2.2.1.fr hf9 (by omega)
    have hb9 := HY.out.1.2.2.2.2.trans (hf9.below hle fun k hk => by omega)
    cases hr : rf m l x with
    | none =>
      rw [hr] at h9
      obtain ⟨rfl, m', s', hq9⟩ := h9
      obtain ⟨r, hnx⟩ := HX.out.1.2
      have hnn := rfs_none (r := r) HX.out.2.1 hr
      rw [hnx] at hnn
      have HZ := Lib.hid (show Fr (fun k => k = q + 2 ∨ k = q) W2 w9 ∧ GetP w q b thrown w9 from ⟨hf9, rfl, by rw [HG.out _ hnn]; rfl, ⟨m', s', hq9⟩, hE9, hb9⟩)
      clear hf9 hE9 hb9 hq9 hnn hr hnx c4 hle
      gi_wp2
      exact ⟨rfl, HZ.out⟩
    | some y =>
      rw [hr] at h9
      obtain ⟨rfl, hr9, s', hq9, hR9, hk9⟩ := h9
      obtain ⟨m3, l3⟩ := y
      have hsz := rf_sz HX.out.1.1 hr HX.out.2.2.2.1
      have HZ := Lib.hid (show Fr (fun k => k = q + 2 ∨ k = q) W2 w9 ∧ GetJ w q (kb + 1) 1000000 m0 r0 (pre ++ [x]) w9 from ⟨hf9, m3, l3, s', rfs_one HX.out.2.1 hr, ⟨hr9, hq9, HY.out.1.2.2.1.fr hf9 (by omega), hE9, hb9⟩, hR9, Nat.le_trans HY.out.2.2 hf9.size, HX.out.2.2.1.next hk9 hsz.2.2.1 hsz.2.2.2.1 hsz.2.2.2.2, hsz.1, hsz.2.1.trans HX.out.2.2.2.2⟩)
      clear hf9 hE9 hb9 hq9 hr hr9 hR9 hk9 hsz c4 hle
      gi_wp2
      exact HZ.out
  case hpan =>
    rintro D ch W hD ⟨rfl, hg, ⟨m, s, hB⟩, hE, hb⟩ hK
    rw [HS8.out.1] at hD
    exact leave_two w W q D m s _ _ b HB2.out.2.2.symm rfl rfl hB hE hb hg hK (by have := HS8.out; omega)
  case done =>
    rintro D xs W hD rfl hI5 hK
    rw [HS8.out.1] at hD
    obtain ⟨m1, l, s, h1, ⟨g0, h3, h4, h5, h6⟩, hR, hsz0, _, hsz, hkind⟩ := hI5
    have hg := HG.out _ h1
    rw [Option.bind_some] at hg
    dsimp only at hg
    have HMI := Lib.hid (show HasT W ∧ MIn W W.heap.size m1 s from ⟨fun k hk => (h6.cell (by have := HS8.out; dsimp only; omega)).trans (HT.out.1 k hk), by
      obtain ⟨z1, z2, z3, z4⟩ := hsz
      exact ⟨hR.1.cells, hR.2.1.cells, hR.2.2.cells, by rw [hkind, HM0.out.1]; exact HK1.out, by omega, by omega, by omega, by omega, fun x hx => by have := z4 x hx; omega⟩⟩)
    obtain ⟨_, A', c', g1, g2, g3⟩ := g0
    clear h1 hsz0 hsz hkind
    show WpAt _ _ _ _ _ _
    by_cases hl : l.length = 0
    · have hln : l = [] := List.eq_nil_of_length_eq_zero hl
      subst hln
      cases hm : may m1 with
      | true =>
      have HG1 := Lib.hid (show Wi.get b = some m1 ∧ may m1 = true from ⟨by rw [hg, if_pos ⟨rfl, hm⟩], hm⟩)
      clear hg hm hl
      have HX := Lib.hid h3
      have HD := Lib.hid (And.intro hD (And.intro hK (And.intro h4 (And.intro h5 (And.intro h6 hR)))))
      have c0 := HX.out.cell 0
      have c1 := HX.out.cell 1
      have c2 := HX.out.cell 2
      have c3 := HX.out.cell 3
      have c4 := HX.out.cell 4
      have c5 := HX.out.cell 5
      have c6 := HX.out.cell 6
      have c7 := HX.out.cell 7
      have c8 := HX.out.cell 8
      have c9 := HX.out.cell 9
      have c10 := HX.out.cell 10
      have c11 := HX.out.cell 11
      have c12 := HX.out.cell 12
      have c13 := HX.out.cell 13
      simp [mv] at c0 c1 c2 c3 c4 c5 c6 c7 c8 c9 c10 c11 c12 c13
      have d0 := g1.cell 0
      simp at d0
      have d4 := h4.cell 0
      simp at d4
      rw [show q + 3 = q + 1 + 1 + 1 from rfl] at d4
      clear h3 h4 h5 h6 hD hK hR g1 g2 g3
      refine wpAt_seq1 ?_
      go_wp2_with fail
      refine (may_any W m1 s HMI.out.1 HMI.out.2).mono ?_
      rintro e w3 ⟨rfl, hb3⟩
      rw [HG1.out.2]
      have HX3 := Lib.hid (HX.out.keep hb3)
      have HD3' := Lib.hid (show Blk w3 (q + 1) 22 #[.int .i64 0] ∧ Below q w w3 ∧ w3.heap[D]? = some (.deferred (some [])) ∧ RowsO w3 (kb + 1 + 2) m1 s from ⟨HD.out.2.2.2.1.keep hb3, HD.out.2.2.2.2.1.trans (hb3.mono (by have := HX.out.lt; omega)), by
        rw [hb3.block D (Array.getElem?_eq_some_iff.1 HD.out.2.1).1]; exact HD.out.2.1, HD.out.2.2.2.2.2.keep hb3⟩)
      clear hb3 c0 c1 c2 c3 c4 c5 c6 c7 c8 c9 c10 c11 c12 c13 d0 d4
      go_wp2_with fail
      refine (want_ok _).mono ?_
      rintro e w4' ⟨rfl, rfl⟩
      go_wp2_with fail
      refine wpAt_seq1 ?_
      go_wp2_with ((with_reducible show wpList _ _ _ ((⟨some 38, _, _, _, _, _⟩ : Oper) :: _) _ _); refine wpList_load_mid rfl 27 (.tmp 2) rfl q 0 rfl (mv m1 s).toList _ (range_of HX3.out) Tryd.underlying27 rfl minfo ?_; refine wpList_store_mid rfl 27 (.tmp 2) (.tmp 38) rfl q 0 (mv m1 s) rfl rfl (there_of HX3.out) minfo (mv_one _ _) ?_; obtain ⟨w5', hw5⟩ : ∃ x, w3.setCells q 0 (mv m1 s).toList = x := ⟨_, rfl⟩; have hF5 : Fr (fun k => k = q) w3 w5' := (by rw [← hw5]; exact set14_fr w3 q m1 s); have HF5 := Lib.hid hF5; have HX5 := Lib.hid (show Blk w5' q 27 (mv m1 s) from by rw [← hw5]; exact set14m HX3.out); have HQ5 := Lib.hid (HD3'.out.1.fr hF5 (by omega)); have y0 := HQ5.out.cell 0; have y1 := HQ5.out.frozen 0; simp at y0; rw [hw5]; clear hw5 hF5)
      have hf6 : Fr (fun k => k = q + 1) w5' (w5'.setCell ⟨q + 1, 0, none⟩ (.int .i64 0)) := Fr.setCell (S := fun k => k = q + 1) (w' := w5') (Fr.refl _ w5') (p := ⟨q + 1, 0, none⟩) (fun _ => rfl) _
      obtain ⟨w6', hw6⟩ : ∃ x, w5'.setCell ⟨q + 1, 0, none⟩ (.int .i64 0) = x := ⟨_, rfl⟩
      have HZ := Lib.hid (show Blk w6' q 27 (mv m1 s) ∧ Blk w6' (q + 1) 22 #[.int .i64 0] ∧ Below q w w6' ∧ w6'.heap[D]? = some (.deferred (some [])) ∧ RowsO w6' (kb + 1 + 2) m1 s from by
        rw [hw6] at hf6
        have e3 : q ≤ w3.heap.size := by have := HX3.out.lt; omega
        have e5 : q ≤ w5'.heap.size := by have := HX5.out.lt; omega
        refine ⟨HX5.out.fr hf6 (by omega), ?_, (HD3'.out.2.1.trans (HF5.out.below e3 fun k hk => by omega)).trans (hf6.below e5 fun k hk => by omega), ?_, (HD3'.out.2.2.2.frB HF5.out fun k hk => by have := HS8.out; omega).frB hf6 fun k hk => by have := HS8.out; omega⟩
        · rw [← hw6]; exact HQ5.out.set_ 0 (.int .i64 0)
        · have k3 := HD3'.out.2.2.1
          have k5 := (HF5.out.block D (Array.getElem?_eq_some_iff.1 k3).1 (by have := HD.out.1; have := HS8.out; omega)).trans k3
          exact (hf6.block D (Array.getElem?_eq_some_iff.1 k5).1 (by have := HD.out.1; have := HS8.out; omega)).trans k5)
      rw [hw6]
      clear hf6 hw6 y0 y1
      refine wpAt_of ?_
      go_wp2_with fail
      refine ⟨by simp, .inl ⟨_, _, rfl, run_takeDeferred HZ.out.2.2.2.1, ?_⟩⟩
      refine ⟨by simp, .inr ⟨by simp [Fence.wide], _, _, 34, #[.pointer (some ⟨q, 0, none⟩), .pointer (some ⟨q + 1, 0, none⟩)], rfl, by simp [go_sem], fun _ _ => trivial, ?_⟩⟩
      refine (idle_in ⟨q, 0, none⟩ ⟨q + 1, 0, none⟩ _ _).mono ?_
      rintro e u' w7' ⟨rfl, rfl, rfl⟩
      have hfs : Fr (fun k => k = D) w6' (w6'.putObj D (.deferred none)) := put_fr _
      have hX := HZ.out.1.fr hfs (by have := HD.out.1; have := HS8.out; omega)
      have hE := HZ.out.2.1.fr hfs (by have := HD.out.1; have := HS8.out; omega)
      refine ⟨.tuple #[.agg (mv m1 s), .int .i64 0], ?_, ?_, ?_⟩
      · have e0 := hX.cell 0
        have e1 := hX.cell 1
        have e2 := hX.cell 2
        have e3 := hX.cell 3
        have e4 := hX.cell 4
        have e5 := hX.cell 5
        have e6 := hX.cell 6
        have e7 := hX.cell 7
        have e8 := hX.cell 8
        have e9 := hX.cell 9
        have e10 := hX.cell 10
        have e11 := hX.cell 11
        have e12 := hX.cell 12
        have e13 := hX.cell 13
        have e14 := hE.cell 0
        simp [mv] at e0 e1 e2 e3 e4 e5 e6 e7 e8 e9 e10 e11 e12 e13
        simp at e14
        simp [results, Tryd.results15, go_sem, e0, e1, e2, e3, e4, e5, e6, e7, e8, e9, e10, e11, e12, e13, e14]
        rfl
      · rw [← HB2.out.2.2]
        exact HZ.out.2.2.1.trans (hfs.below (by have := HZ.out.1.lt; omega) fun k hk => by have := HD.out.1; have := HS8.out; omega)
      · rw [HG1.out.1]
        exact ⟨s, rfl, (HZ.out.2.2.2.2.frB hfs fun k hk => by have := HD.out.1; omega).down (by have := HS8.out; have := HB2.out.2.2; omega)⟩
      | false =>
      have HG1 := Lib.hid (show Wi.get b = none ∧ may m1 = false from ⟨by rw [hg, if_neg (by rw [hm]; simp)], hm⟩)
      clear hg hm hl
      have HX := Lib.hid h3
      have HD := Lib.hid (And.intro hD (And.intro hK (And.intro h4 (And.intro h5 (And.intro h6 hR)))))
      have c0 := HX.out.cell 0
      have c1 := HX.out.cell 1
      have c2 := HX.out.cell 2
      have c3 := HX.out.cell 3
      have c4 := HX.out.cell 4
      have c5 := HX.out.cell 5
      have c6 := HX.out.cell 6
      have c7 := HX.out.cell 7
      have c8 := HX.out.cell 8
      have c9 := HX.out.cell 9
      have c10 := HX.out.cell 10
      have c11 := HX.out.cell 11
      have c12 := HX.out.cell 12
      have c13 := HX.out.cell 13
      simp [mv] at c0 c1 c2 c3 c4 c5 c6 c7 c8 c9 c10 c11 c12 c13
      have d0 := g1.cell 0
      simp at d0
      have d4 := h4.cell 0
      simp at d4
      rw [show q + 3 = q + 1 + 1 + 1 from rfl] at d4
      clear h3 h4 h5 h6 hD hK hR g1 g2 g3
      refine wpAt_seq1 ?_
      go_wp2_with fail
      refine (may_any W m1 s HMI.out.1 HMI.out.2).mono ?_
      rintro e w3 ⟨rfl, hb3⟩
      rw [HG1.out.2]
      have HX3 := Lib.hid (HX.out.keep hb3)
      have HD3' := Lib.hid (show Blk w3 (q + 1) 22 #[.int .i64 0] ∧ Below q w w3 ∧ w3.heap[D]? = some (.deferred (some [])) ∧ RowsO w3 (kb + 1 + 2) m1 s from ⟨HD.out.2.2.2.1.keep hb3, HD.out.2.2.2.2.1.trans (hb3.mono (by have := HX.out.lt; omega)), by
        rw [hb3.block D (Array.getElem?_eq_some_iff.1 HD.out.2.1).1]; exact HD.out.2.1, HD.out.2.2.2.2.2.keep hb3⟩)
      clear hb3 c0 c1 c2 c3 c4 c5 c6 c7 c8 c9 c10 c11 c12 c13 d0 d4
      go_wp2_with fail
      refine (want_no _).mono ?_
      rintro e w4' ⟨rfl, rfl⟩
      go_wp2_with fail
      exact leave_two w w3 q D m1 s _ _ b HB2.out.2.2.symm rfl rfl HX3.out HD3'.out.1 HD3'.out.2.1 HG1.out.1 HD3'.out.2.2.1 (by have := HD.out.1; have := HS8.out; omega)
    · have HG1 := Lib.hid (show Wi.get b = none by rw [hg, if_neg (fun h => hl h.1)])
      obtain ⟨k, hk⟩ : ∃ k, l.length = k := ⟨_, rfl⟩
      rw [hk] at g1 hl
      have e0 : ((k : Int) == 0) = false := by rw [beq_eq_false_iff_ne]; omega
      have e1 : (k == 0) = false := by rw [beq_eq_false_iff_ne]; omega
      clear hg hl hk g3
      have HX := Lib.hid h3
      have HD := Lib.hid (And.intro hD (And.intro hK (And.intro h4 (And.intro h5 (And.intro h6 hR)))))
      have c0 := HX.out.cell 0
      have c1 := HX.out.cell 1
      have c2 := HX.out.cell 2
      have c3 := HX.out.cell 3
      have c4 := HX.out.cell 4
      have c5 := HX.out.cell 5
      have c6 := HX.out.cell 6
      have c7 := HX.out.cell 7
      have c8 := HX.out.cell 8
      have c9 := HX.out.cell 9
      have c10 := HX.out.cell 10
      have c11 := HX.out.cell 11
      have c12 := HX.out.cell 12
      have c13 := HX.out.cell 13
      simp [mv] at c0 c1 c2 c3 c4 c5 c6 c7 c8 c9 c10 c11 c12 c13
      have d0 := g1.cell 0
      simp at d0
      have d4 := h4.cell 0
      simp at d4
      rw [show q + 3 = q + 1 + 1 + 1 from rfl] at d4
      clear h3 h4 h5 h6 hD hK hR g1 g2
      refine wpAt_seq1 ?_
      go_wp2_with fail
      refine (want_no _).mono ?_
      rintro e w4' ⟨rfl, rfl⟩
      go_wp2_with fail
      exact leave_two w W q D m1 s _ _ b HB2.out.2.2.symm rfl rfl HX.out HD.out.2.2.2.1 HD.out.2.2.2.2.1 HG1.out HD.out.2.1 (by have := HD.out.1; have := HS8.out; omega)
end Go.Proofs.YtebdmfmadbikaaaDoor.WiW
/- The document's Get: its state, and what a field does to it. -/
namespace Go.Proofs.YtebdmfmadbikaaaDoor.WiW
open Go.RowKit Go.Shelf Mem Fds FdW Wi Rng
set_option linter.unusedVariables false
set_option linter.unusedSimpArgs false

/-- Get's blocks: the result at q, the reader at q + 1, the message at mb. -/
def DS (w : World) (q mb : Nat) (m : Msg) (A : Option Addr) (c : Nat) (na : Option Addr) (nc : Nat) (o : Option (List UInt8)) (W : World) : Prop :=
  Blk W q 33 (pv mz none 0 none 0) ∧ Blk W mb 33 (pv m A c na nc) ∧ RdD W q (q + 1) o ∧ OwnK W q 54 2 A m.ids.length c (m.ids.flatMap dc) ∧ Mem.Own W q 3 na nc (m.nodes.map iv) ∧ Below q w W ∧ q + 1 < mb
theorem DS.ne {w W : World} {q mb : Nat} {m : Msg} {A : Option Addr} {c : Nat} {na : Option Addr} {nc : Nat} {o : Option (List UInt8)} (h : DS w q mb m A c na nc o W) (k : Nat) (hk : k = q + 1 ∨ k = mb) : (∀ g, A = some ⟨g, 0, none⟩ → g ≠ k) ∧ (∀ g, na = some ⟨g, 0, none⟩ → g ≠ k) := by
  obtain ⟨h1, h2, ⟨_, A', n', c', h3, _⟩, h4, h5, h6, h7⟩ := h
  constructor
  · rintro g rfl rfl
    rcases hk with rfl | rfl
    · exact blk_ne_ownK h3 h4 (by decide) rfl
    · exact blk_ne_ownK h2 h4 (by decide) rfl
  · rintro g rfl rfl
    rcases hk with rfl | rfl
    · exact h3.ne_own h5 (by decide) _ rfl rfl
    · exact h2.ne_own h5 (by decide) _ rfl rfl
/-- The reader moved on. -/
theorem DS.rd {w W W' : World} {q mb : Nat} {m : Msg} {A : Option Addr} {c : Nat} {na : Option Addr} {nc : Nat} {o o' : Option (List UInt8)} (h : DS w q mb m A c na nc o W) (hf : Fr (fun k => k = q + 1) W W') (hr : RdD W' q (q + 1) o') : DS w q mb m A c na nc o' W' := by
  have hn := h.ne (q + 1) (.inl rfl)
  obtain ⟨h1, h2, h3, h4, h5, h6, h7⟩ := h
  exact ⟨h1.fr hf (by omega), h2.fr hf (by omega), hr, h4.fr hf (fun g hg e => hn.1 g hg e), h5.fr hf (fun g hg e => hn.2 g hg e), h6.trans (hf.below (Nat.le_of_lt h1.lt) fun k hk => by omega), h7⟩
/-- New blocks. -/
theorem DS.keep {w W W' : World} {q mb : Nat} {m : Msg} {A : Option Addr} {c : Nat} {na : Option Addr} {nc : Nat} {o : Option (List UInt8)} (h : DS w q mb m A c na nc o W) (hb : Below W.heap.size W W') : DS w q mb m A c na nc o W' := by
  obtain ⟨h1, h2, h3, h4, h5, h6, h7⟩ := h
  exact ⟨h1.keep hb, h2.keep hb, h3.keep hb, h4.keep hb, h5.keep hb, h6.trans (hb.mono (Nat.le_of_lt h1.lt)), h7⟩
/-- A cell of the message. -/
theorem DS.put {w W : World} {q mb : Nat} {m m' : Msg} {A : Option Addr} {c : Nat} {na : Option Addr} {nc : Nat} {o : Option (List UInt8)} (h : DS w q mb m A c na nc o W) (f : Nat) (v : Value) (hv : (pv m A c na nc).setIfInBounds f v = pv m' A c na nc) (hi : m'.ids = m.ids) (hn : m'.nodes = m.nodes) : DS w q mb m' A c na nc o (W.setCell ⟨mb, f, none⟩ v) := by
  have hf : Fr (fun k => k = mb) W (W.setCell ⟨mb, f, none⟩ v) := Fr.setCell (S := fun k => k = mb) (w' := W) (Fr.refl _ W) (p := ⟨mb, f, none⟩) (fun _ => rfl) _
  have hne := h.ne mb (.inr rfl)
  obtain ⟨h1, h2, h3, h4, h5, h6, h7⟩ := h
  refine ⟨h1.fr hf (by omega), by rw [← hv]; exact h2.set_ f v, h3.fr hf (fun k hk => by omega) (by omega), ?_, ?_, h6.trans (hf.below (Nat.le_of_lt h1.lt) fun k hk => by omega), h7⟩
  · rw [hi]; exact h4.fr hf (fun g hg e => hne.1 g hg e)
  · rw [hn]; exact h5.fr hf (fun g hg e => hne.2 g hg e)
/-- The reader turned bad, or not, of itself. -/
theorem DS.turn {w W : World} {q mb : Nat} {m : Msg} {A : Option Addr} {c : Nat} {na : Option Addr} {nc : Nat} {o : Option (List UInt8)} (h : DS w q mb m A c na nc o W) (b : Bool) : DS w q mb m A c na nc (if b then none else o) (W.setCell ⟨q + 1, 1, none⟩ (.bool (o.isNone || b))) := by
  have hf : Fr (fun k => k = q + 1) W (W.setCell ⟨q + 1, 1, none⟩ (.bool (o.isNone || b))) := Fr.setCell (S := fun k => k = q + 1) (w' := W) (Fr.refl _ W) (p := ⟨q + 1, 1, none⟩) (fun _ => rfl) _
  refine h.rd hf ?_
  obtain ⟨_, A', n', c', h3, h4⟩ := h.2.2.1
  have h3' := h3.set_ 1 (.bool (o.isNone || b))
  cases b with
  | true =>
    refine ⟨by omega, A', n', c', ?_, fun l e => by cases e⟩
    rw [Bool.or_true] at h3'
    rw [Bool.or_true]
    exact h3'
  | false =>
    rw [Bool.or_false] at h3'
    refine ⟨by omega, A', n', c', ?_, fun l e => ?_⟩
    · rw [Bool.or_false]; exact h3'
    · obtain ⟨e1, e2, e3⟩ := h4 l e
      exact ⟨e1, e2.below (hf.below (Nat.le_of_lt h.1.lt) fun k hk => by omega), e3⟩
/-- What a field did. -/
def FR (w : World) (q mb : Nat) (m : Msg) (A : Option Addr) (c : Nat) (na : Option Addr) (nc : Nat) (o : Option (List UInt8)) (f : Nat) (W : World) : Prop :=
  ∃ m' A' c' na' nc', DS w q mb m' A' c' na' nc' ((o.bind fun l => rf m l f).map (·.2)) W ∧ (∀ x, (o.bind fun l => rf m l f) = some x → m' = x.1) ∧ m'.kind = m.kind ∧ (f ≠ 8 → m'.ids = m.ids ∧ A' = A ∧ c' = c) ∧ (f ≠ 9 → m'.nodes = m.nodes ∧ na' = na ∧ nc' = nc)
/-- Get's state when the fields pre are read. -/
def DJ (w : World) (q mb : Nat) (m0 : Msg) (o0 : Option (List UInt8)) (pre : List Nat) (W : World) : Prop :=
  ∃ m A c na nc, DS w q mb m A c na nc ((o0.bind (rfs pre m0)).map (·.2)) W ∧ (∀ x, o0.bind (rfs pre m0) = some x → m = x.1) ∧ m.kind = m0.kind ∧ (8 ∉ pre → m.ids = [] ∧ A = none ∧ c = 0) ∧ (9 ∉ pre → m.nodes = [] ∧ na = none ∧ nc = 0)
theorem rfs_snoc : ∀ (pre : List Nat) (m : Msg) (l : List UInt8) (f : Nat), rfs (pre ++ [f]) m l = (rfs pre m l).bind fun p => rf p.1 p.2 f
  | [], m, l, f => by
    simp only [List.nil_append, rfs, Option.bind_some]
    cases rf m l f <;> rfl
  | g :: pre, m, l, f => by
    simp only [List.cons_append, rfs]
    cases rf m l g with
    | none => rfl
    | some x => simp only [Option.bind_some]; exact rfs_snoc pre x.1 x.2 f
theorem DJ.next {w W : World} {q mb : Nat} {m0 m : Msg} {o0 : Option (List UInt8)} {pre : List Nat} {f : Nat} {A : Option Addr} {c : Nat} {na : Option Addr} {nc : Nat} (hx : ∀ x, o0.bind (rfs pre m0) = some x → m = x.1) (hk : m.kind = m0.kind) (h8 : 8 ∉ pre → m.ids = [] ∧ A = none ∧ c = 0) (h9 : 9 ∉ pre → m.nodes = [] ∧ na = none ∧ nc = 0)
    (h : FR w q mb m A c na nc ((o0.bind (rfs pre m0)).map (·.2)) f W) : DJ w q mb m0 o0 (pre ++ [f]) W := by
  obtain ⟨m', A', c', na', nc', h1, h2, h3, h4, h5⟩ := h
  have e : o0.bind (rfs (pre ++ [f]) m0) = ((o0.bind (rfs pre m0)).map (·.2)).bind fun l => rf m l f := by
    cases o0 with
    | none => rfl
    | some l0 =>
      rw [Option.bind_some, Option.bind_some, rfs_snoc]
      rw [Option.bind_some] at hx
      cases hr : rfs pre m0 l0 with
      | none => rfl
      | some x =>
        simp only [Option.bind_some, Option.map_some]
        rw [hx x hr]
  refine ⟨m', A', c', na', nc', by rw [e]; exact h1, by rw [e]; exact h2, by rw [h3, hk], fun hn => ?_, fun hn => ?_⟩
  · rw [List.mem_append, not_or] at hn
    obtain ⟨g1, g2, g3⟩ := h4 (fun e => hn.2 (by rw [e]; simp))
    rw [g1, g2, g3]; exact h8 hn.1
  · rw [List.mem_append, not_or] at hn
    obtain ⟨g1, g2, g3⟩ := h5 (fun e => hn.2 (by rw [e]; simp))
    rw [g1, g2, g3]; exact h9 hn.1
/-- A number into a cell. -/
theorem FR.num {w W : World} {q mb : Nat} {m : Msg} {A : Option Addr} {c : Nat} {na : Option Addr} {nc : Nat} {o : Option (List UInt8)} {f n : Nat} {v : Int} (g : Int → Msg) (hr : ∀ l, rf m l f = (rnum n l).map fun p => (g (sgn p.1), p.2)) (hv : v = ((o.bind (rnum n)).map fun q => sgn q.1).getD 0)
    (hg : (g v).kind = m.kind ∧ (g v).ids = m.ids ∧ (g v).nodes = m.nodes) (h : DS w q mb (g v) A c na nc ((o.bind (rnum n)).map (·.2)) W) : FR w q mb m A c na nc o f W := by
  have e : (o.bind fun l => rf m l f) = (o.bind (rnum n)).map fun p => (g (sgn p.1), p.2) := by
    cases o with
    | none => rfl
    | some l => rw [Option.bind_some, Option.bind_some]; exact hr l
  refine ⟨g v, A, c, na, nc, ?_, fun x hx => ?_, hg.1, fun _ => ⟨hg.2.1, rfl, rfl⟩, fun _ => ⟨hg.2.2, rfl, rfl⟩⟩
  · rw [e, Option.map_map]; exact h
  · rw [e, Option.map_eq_some_iff] at hx
    obtain ⟨y, hy, rfl⟩ := hx
    rw [hy] at hv
    rw [hv]; rfl
theorem FR.txt {w W : World} {q mb : Nat} {m : Msg} {A : Option Addr} {c : Nat} {na : Option Addr} {nc : Nat} {o : Option (List UInt8)} {f n : Nat} {v : List UInt8} (g : List UInt8 → Msg) (hr : ∀ l, rf m l f = (rtx n l).map fun p => (g p.1, p.2)) (hv : v = ((o.bind (rtx n)).map (·.1)).getD [])
    (hg : (g v).kind = m.kind ∧ (g v).ids = m.ids ∧ (g v).nodes = m.nodes) (h : DS w q mb (g v) A c na nc ((o.bind (rtx n)).map (·.2)) W) : FR w q mb m A c na nc o f W := by
  have e : (o.bind fun l => rf m l f) = (o.bind (rtx n)).map fun p => (g p.1, p.2) := by
    cases o with
    | none => rfl
    | some l => rw [Option.bind_some, Option.bind_some]; exact hr l
  refine ⟨g v, A, c, na, nc, ?_, fun x hx => ?_, hg.1, fun _ => ⟨hg.2.1, rfl, rfl⟩, fun _ => ⟨hg.2.2, rfl, rfl⟩⟩
  · rw [e, Option.map_map]; exact h
  · rw [e, Option.map_eq_some_iff] at hx
    obtain ⟨y, hy, rfl⟩ := hx
    rw [hy] at hv
    rw [hv]; rfl
theorem rf_sgn {α : Type} {n : Nat} (hn : n ≤ 4) (l : List UInt8) (g : Int → α) : ((rnum n l).map fun p => (g (p.1 : Int), p.2)) = (rnum n l).map fun p => (g (sgn p.1), p.2) := by
  cases h : rnum n l with
  | none => rfl
  | some x =>
    have h1 := (rnum_some h).1
    have h2 : 256 ^ n ≤ 256 ^ 4 := Nat.pow_le_pow_right (by decide) hn
    have h3 : x.1 < 4294967296 := Nat.lt_of_lt_of_le h1 h2
    rw [Option.map_some, Option.map_some, sgn_small (by omega)]
theorem rf10 (m : Msg) (l : List UInt8) : rf m l 10 = (rtx 4 l).map fun p => ({ m with data := p.1 }, p.2) := by
  show ((rnum 4 l).bind fun p => (cut p.1 p.2).map fun q => ({ m with data := q.1 }, q.2)) = ((rnum 4 l).bind fun p => cut p.1 p.2).map _
  cases rnum 4 l <;> rfl
theorem getD_small {o : Option (List UInt8)} {n : Nat} (hn : n ≤ 1) : ∃ k : Nat, ((o.bind (rnum n)).map fun q => sgn q.1).getD 0 = (k : Int) ∧ k < 256 ∧ ∀ x, o.bind (rnum n) = some x → x.1 = k := by
  cases h : o.bind (rnum n) with
  | none => exact ⟨0, rfl, by decide, fun x hx => by cases hx⟩
  | some x =>
    obtain ⟨l, _, hl⟩ := Option.bind_eq_some_iff.1 h
    have h1 := (rnum_some hl).1
    have h2 : 256 ^ n ≤ 256 ^ 1 := Nat.pow_le_pow_right (by decide) hn
    have h3 : x.1 < 256 := Nat.lt_of_lt_of_le h1 h2
    exact ⟨x.1, sgn_small (by omega), h3, fun y hy => by injection hy with hy; rw [hy]⟩
/-- The field back. -/
theorem FR.back {w W : World} {q mb : Nat} {m : Msg} {A : Option Addr} {c : Nat} {na : Option Addr} {nc : Nat} {o : Option (List UInt8)} {k : Nat} (hk : ∀ x, o.bind (rnum 1) = some x → x.1 = k)
    (h : DS w q mb { m with back := decide (k = 1) } A c na nc (if decide (1 < k) then none else (o.bind (rnum 1)).map (·.2)) W) : FR w q mb m A c na nc o 7 W := by
  have e : (o.bind fun l => rf m l 7) = (o.bind (rnum 1)).bind fun p => if p.1 ≤ 1 then some ({ m with back := decide (p.1 = 1) }, p.2) else none := by
    cases o <;> rfl
  refine ⟨{ m with back := decide (k = 1) }, A, c, na, nc, ?_, fun x hx => ?_, rfl, fun _ => ⟨rfl, rfl, rfl⟩, fun _ => ⟨rfl, rfl, rfl⟩⟩
  · rw [e]
    cases h1 : o.bind (rnum 1) with
    | none =>
      rw [h1] at h
      rw [Option.bind_none, Option.map_none]
      by_cases hk1 : 1 < k
      · rw [if_pos (decide_eq_true hk1)] at h; exact h
      · rw [if_neg (by simp; omega)] at h; exact h
    | some x =>
      rw [h1] at h
      rw [Option.bind_some, hk x h1]
      by_cases hk1 : 1 < k
      · rw [if_pos (decide_eq_true hk1)] at h; rw [if_neg (by omega)]; exact h
      · rw [if_neg (by simp; omega)] at h; rw [if_pos (by omega)]; exact h
  · rw [e] at hx
    cases h1 : o.bind (rnum 1) with
    | none => rw [h1] at hx; cases hx
    | some y =>
      rw [h1, Option.bind_some, hk y h1] at hx
      split at hx
      · injection hx with hx; subst hx; rfl
      · cases hx
/-- The loops of ids and of nodes. -/
def IJ (w : World) (q mb : Nat) (m : Msg) (na : Option Addr) (nc : Nat) (o : Option (List UInt8)) (j : Nat) (W : World) : Prop :=
  ∃ xs A c, xs.length = j ∧ DS w q mb { m with ids := xs } A c na nc ((o.bind (rids j)).map (·.2)) W ∧ ∀ x, o.bind (rids j) = some x → xs = x.1
def NJ (w : World) (q mb : Nat) (m : Msg) (A : Option Addr) (c : Nat) (o : Option (List UInt8)) (j : Nat) (W : World) : Prop :=
  ∃ xs na nc, xs.length = j ∧ DS w q mb { m with nodes := xs } A c na nc ((o.bind (rnodes j)).map (·.2)) W ∧ ∀ x, o.bind (rnodes j) = some x → xs = x.1
theorem IJ.next {w W : World} {q mb : Nat} {m : Msg} {na : Option Addr} {nc : Nat} {o : Option (List UInt8)} {j : Nat} {xs : List (List UInt8 × Int)} {A : Option Addr} {c : Nat} {l s : List UInt8} {v : Int} {o3 : Option (List UInt8)} (hl : xs.length = j) (ho : (o.bind (rids j)).map (·.2) = some l) (hx : ∀ x, o.bind (rids j) = some x → xs = x.1)
    (hs : s = ((rtx 1 l).map (·.1)).getD []) (h3 : o3 = (rtx 1 l).map (·.2)) (hv : v = ((o3.bind (rnum 8)).map fun q => sgn q.1).getD 0) (h : DS w q mb { m with ids := xs ++ [(s, v)] } A c na nc ((o3.bind (rnum 8)).map (·.2)) W) : IJ w q mb m na nc o (j + 1) W := by
  obtain ⟨y, hy, hyl⟩ := Option.map_eq_some_iff.1 ho
  have e : o.bind (rids (j + 1)) = (rid l).map fun q => (xs ++ [q.1], q.2) := by
    cases o with
    | none => cases hy
    | some l0 =>
      rw [Option.bind_some] at hy ⊢
      rw [rids_snoc, hy, Option.bind_some, hyl, hx y hy]
  have e2 : rid l = (rtx 1 l).bind fun p => (rnum 8 p.2).map fun q => ((p.1, sgn q.1), q.2) := rfl
  refine ⟨xs ++ [(s, v)], A, c, by simp [hl], ?_, fun x hx => ?_⟩
  · rw [e, e2]
    subst h3
    cases h1 : rtx 1 l with
    | none => rw [h1] at h; exact h
    | some p =>
      rw [h1] at h
      simp only [Option.map_some, Option.bind_some] at h ⊢
      cases h2 : rnum 8 p.2 with
      | none => rw [h2] at h; exact h
      | some z => rw [h2] at h; exact h
  · rw [e, e2] at hx
    subst h3
    cases h1 : rtx 1 l with
    | none => rw [h1] at hx; cases hx
    | some p =>
      rw [h1] at hx hv hs
      simp only [Option.map_some, Option.bind_some] at hx hv hs
      cases h2 : rnum 8 p.2 with
      | none => rw [h2] at hx; cases hx
      | some z =>
        rw [h2] at hx hv
        simp only [Option.map_some, Option.getD_some] at hx hv hs
        injection hx with hx
        subst hx
        rw [hv, hs]
theorem NJ.next {w W : World} {q mb : Nat} {m : Msg} {A : Option Addr} {c : Nat} {o : Option (List UInt8)} {j : Nat} {xs : List Int} {na : Option Addr} {nc : Nat} {l : List UInt8} {v : Int} (hl : xs.length = j) (ho : (o.bind (rnodes j)).map (·.2) = some l) (hx : ∀ x, o.bind (rnodes j) = some x → xs = x.1)
    (hv : v = ((rnum 2 l).map fun q => sgn q.1).getD 0) (h : DS w q mb { m with nodes := xs ++ [v] } A c na nc ((rnum 2 l).map (·.2)) W) : NJ w q mb m A c o (j + 1) W := by
  obtain ⟨y, hy, hyl⟩ := Option.map_eq_some_iff.1 ho
  have e : o.bind (rnodes (j + 1)) = (rnum 2 l).map fun q => (xs ++ [sgn q.1], q.2) := by
    cases o with
    | none => cases hy
    | some l0 =>
      rw [Option.bind_some] at hy ⊢
      rw [rnodes_snoc, hy, Option.bind_some, hyl, hx y hy]
      exact rf_sgn (by decide) l fun z => y.1 ++ [z]
  refine ⟨xs ++ [v], na, nc, by simp [hl], ?_, fun x hx => ?_⟩
  · rw [e, Option.map_map]; exact h
  · rw [e] at hx
    obtain ⟨z, hz, rfl⟩ := Option.map_eq_some_iff.1 hx
    rw [hz] at hv
    rw [hv]; rfl
theorem IJ.done {w W : World} {q mb : Nat} {m : Msg} {A : Option Addr} {c : Nat} {na : Option Addr} {nc : Nat} {o o1 : Option (List UInt8)} {k j : Nat} (hm : m.ids = []) (hk : ∀ x, o.bind (rnum 1) = some x → x.1 = k) (ho : o1 = (o.bind (rnum 1)).map (·.2)) (h : IJ w q mb m na nc o1 j W) (hj : j ≤ k) (hd : j = k ∨ o1.bind (rids j) = none) : FR w q mb m A c na nc o 8 W := by
  have e : (o.bind fun l => rf m l 8) = (o1.bind (rids k)).map fun q => ({ m with ids := q.1 }, q.2) := by
    subst ho
    have e1 : (o.bind fun l => rf m l 8) = (o.bind (rnum 1)).bind fun p => (rids p.1 p.2).map fun q => ({ m with ids := m.ids ++ q.1 }, q.2) := by cases o <;> rfl
    rw [e1, hm]
    cases h1 : o.bind (rnum 1) with
    | none => rfl
    | some x => simp only [Option.bind_some, Option.map_some, hk x h1, List.nil_append]
  have e2 : o1.bind (rids k) = o1.bind (rids j) := by
    rcases hd with rfl | hd
    · rfl
    · rw [hd]
      cases o1 with
      | none => rfl
      | some l => exact rids_none hd k hj
  obtain ⟨xs, A', c', hl, h1, h2⟩ := h
  refine ⟨{ m with ids := xs }, A', c', na, nc, ?_, fun x hx => ?_, rfl, fun h => absurd rfl h, fun _ => ⟨rfl, rfl, rfl⟩⟩
  · rw [e, e2, Option.map_map]; exact h1
  · rw [e, e2] at hx
    obtain ⟨z, hz, rfl⟩ := Option.map_eq_some_iff.1 hx
    rw [h2 z hz]
theorem NJ.done {w W : World} {q mb : Nat} {m : Msg} {A : Option Addr} {c : Nat} {na : Option Addr} {nc : Nat} {o o1 : Option (List UInt8)} {k j : Nat} (hm : m.nodes = []) (hk : ∀ x, o.bind (rnum 1) = some x → x.1 = k) (ho : o1 = (o.bind (rnum 1)).map (·.2)) (h : NJ w q mb m A c o1 j W) (hj : j ≤ k) (hd : j = k ∨ o1.bind (rnodes j) = none) : FR w q mb m A c na nc o 9 W := by
  have e : (o.bind fun l => rf m l 9) = (o1.bind (rnodes k)).map fun q => ({ m with nodes := q.1 }, q.2) := by
    subst ho
    have e1 : (o.bind fun l => rf m l 9) = (o.bind (rnum 1)).bind fun p => (rnodes p.1 p.2).map fun q => ({ m with nodes := m.nodes ++ q.1 }, q.2) := by cases o <;> rfl
    rw [e1, hm]
    cases h1 : o.bind (rnum 1) with
    | none => rfl
    | some x => simp only [Option.bind_some, Option.map_some, hk x h1, List.nil_append]
  have e2 : o1.bind (rnodes k) = o1.bind (rnodes j) := by
    rcases hd with rfl | hd
    · rfl
    · rw [hd]
      cases o1 with
      | none => rfl
      | some l => exact rnodes_none hd k hj
  obtain ⟨xs, A', c', hl, h1, h2⟩ := h
  refine ⟨{ m with nodes := xs }, A, c, A', c', ?_, fun x hx => ?_, rfl, fun _ => ⟨rfl, rfl, rfl⟩, fun h => absurd rfl h⟩
  · rw [e, e2, Option.map_map]; exact h1
  · rw [e, e2] at hx
    obtain ⟨z, hz, rfl⟩ := Option.map_eq_some_iff.1 hx
    rw [h2 z hz]
/-- The letters of has, one by one. -/
theorem hasS_at {k i : Nat} (h1 : 1 ≤ i) (h : i < (hasS k).length) : ∃ f, f < 11 ∧ (hasS k)[i]? = some (letter f) ∧ (flds k).take i = (flds k).take (i - 1) ++ [f] ∧ f ∉ (flds k).take (i - 1) := by
  have hl := hasS_len k
  by_cases hk : k < 21
  · have : ∀ k < 21, ∀ i < 7, 1 ≤ i → i < (hasS k).length → (List.range 11).any (fun f => decide ((hasS k)[i]? = some (letter f)) && decide ((flds k).take i = (flds k).take (i - 1) ++ [f]) && decide (f ∉ (flds k).take (i - 1))) = true := by decide +kernel
    obtain ⟨f, h0, h⟩ := List.any_eq_true.1 (this k hk i (by omega) h1 h)
    rw [Bool.and_eq_true, Bool.and_eq_true, decide_eq_true_iff, decide_eq_true_iff, decide_eq_true_iff] at h
    exact ⟨f, List.mem_range.1 h0, h.1.1, h.1.2, h.2⟩
  · unfold hasS at h; rw [if_neg (by simp [isK]; omega)] at h; simp at h
theorem hasS_end {k i : Nat} (h1 : 1 ≤ i) (h : ¬ i < (hasS k).length) : (flds k).take (i - 1) = flds k := by
  by_cases hk : k < 21
  · have : ∀ k < 21, (flds k).length + 1 ≤ (hasS k).length ∨ flds k = [] := by decide +kernel
    rcases this k hk with h2 | h2
    · rw [List.take_of_length_le (by omega)]
    · rw [h2, List.take_nil]
  · rw [flds_over (by simp [isK]; omega), List.take_nil]
theorem str_at {l : List UInt8} {i : Nat} {x : UInt8} (h : l[i]? = some x) (h2 : i < (str l).size) : (str l)[i] = x := by
  have h1 := (List.getElem?_eq_some_iff.1 h)
  obtain ⟨h3, h4⟩ := h1
  exact (str_get l i h3 h2).trans h4
/-- Get's head. -/
theorem rhead_of {b : List UInt8} {k : Nat} {v2 v3 : Int} {o1 o2 o3 : Option (List UInt8)} (hk : ∀ x, rnum 1 b = some x → x.1 = k) (h1 : o1 = (rnum 1 b).map (·.2)) (hv2 : v2 = ((o1.bind (rnum 2)).map fun q => sgn q.1).getD 0) (h2 : o2 = (o1.bind (rnum 2)).map (·.2)) (hv3 : v3 = ((o2.bind (rnum 2)).map fun q => sgn q.1).getD 0) (h3 : o3 = (o2.bind (rnum 2)).map (·.2)) :
    rhead b = o3.map fun l => (msg0 k v2 v3, l) := by
  unfold rhead
  cases a1 : rnum 1 b with
  | none => rw [a1] at h1; subst h1; subst h2; subst h3; rfl
  | some x =>
    rw [a1] at h1
    have hx := hk x a1
    subst h1
    rw [Option.map_some, Option.bind_some] at hv2 h2
    rw [Option.bind_some]
    have q2 := rf_sgn (n := 2) (by decide) x.2 (fun z => z)
    cases a2 : rnum 2 x.2 with
    | none => rw [a2] at h2; subst h2; subst h3; rfl
    | some y =>
      rw [a2] at hv2 h2 q2
      subst h2
      rw [Option.map_some, Option.bind_some] at hv3 h3
      rw [Option.bind_some]
      have q3 := rf_sgn (n := 2) (by decide) y.2 (fun z => z)
      cases a3 : rnum 2 y.2 with
      | none => rw [a3] at h3; subst h3; rfl
      | some z =>
        rw [a3] at hv3 h3 q3
        subst h3
        simp only [Option.map_some, Option.some.injEq, Prod.mk.injEq, and_true] at q2 q3
        simp only [Option.map_some, Option.getD_some] at hv2 hv3 ⊢
        rw [hx, hv2, hv3, q2, q3]
theorem get_of {b : List UInt8} {m0 : Msg} {o3 : Option (List UInt8)} (h : rhead b = o3.map fun l => (m0, l)) : Wi.get b = (o3.bind (rfs (flds m0.kind) m0)).bind fun p => if p.2.length = 0 ∧ may p.1 = true then some p.1 else none := by
  unfold Wi.get rall
  rw [h]
  cases o3 <;> rfl
theorem rfs_sz {L : Nat} : ∀ {fs : List Nat} {m m1 : Msg} {l l1 : List UInt8}, (∀ f ∈ fs, f < 11) → rfs fs m l = some (m1, l1) → Sz L m l → Sz L m1 l1
  | [], m, m1, l, l1, _, h, hs => by injection h with h; injection h with h1 h2; subst h1; subst h2; exact hs
  | f :: fs, m, m1, l, l1, hf, h, hs => by
    obtain ⟨x, hx, h⟩ := Option.bind_eq_some_iff.1 h
    obtain ⟨mx, lx⟩ := x
    exact rfs_sz (fun g hg => hf g (List.mem_cons_of_mem _ hg)) h (rf_sz (hf f (List.mem_cons_self ..)) hx hs).1
theorem get_sz {b : List UInt8} {m0 : Msg} {k : Nat} {v2 v3 : Int} {o3 : Option (List UInt8)} {L : Nat} (h : rhead b = o3.map fun l => (m0, l)) (hm : msg0 k v2 v3 = m0) (hb : b.length ≤ L) : ∀ x, o3.bind (rfs (flds k) m0) = some x → Sz L x.1 x.2 := fun x hx => by
  obtain ⟨l, hl, hr⟩ := Option.bind_eq_some_iff.1 hx
  rw [hl] at h
  unfold rhead at h
  obtain ⟨p1, a1, h⟩ := Option.bind_eq_some_iff.1 h
  obtain ⟨p2, a2, h⟩ := Option.bind_eq_some_iff.1 h
  obtain ⟨p3, a3, h⟩ := Option.map_eq_some_iff.1 h
  injection h with _ h
  have l1 := rnum_len a1
  have l2 := rnum_len a2
  have l3 := rnum_len a3
  rw [h] at l3
  obtain ⟨mx, lx⟩ := x
  refine rfs_sz flds_lt hr ?_
  subst hm
  exact ⟨by simp [msg0]; omega, by simp [msg0], by simp [msg0], fun x hx => by cases hx⟩
theorem DS.frS {S : Nat → Prop} {w W W' : World} {q mb : Nat} {m : Msg} {A : Option Addr} {c : Nat} {na : Option Addr} {nc : Nat} {o : Option (List UInt8)} (h : DS w q mb m A c na nc o W) (hf : Fr S W W') (hS : ∀ k, S k → q + 1 < k ∧ k ≠ mb ∧ (∀ g, A = some ⟨g, 0, none⟩ → g ≠ k) ∧ (∀ g, na = some ⟨g, 0, none⟩ → g ≠ k)) : DS w q mb m A c na nc o W' := by
  obtain ⟨h1, h2, h3, h4, h5, h6, h7⟩ := h
  exact ⟨h1.fr hf (fun h => by have := (hS _ h).1; omega), h2.fr hf (fun h => (hS _ h).2.1 rfl), h3.fr hf (fun k hk => by have := (hS k hk).1; omega) (fun h => by have := (hS _ h).1; omega), h4.fr hf (fun g hg e => (hS g e).2.2.1 g hg rfl), h5.fr hf (fun g hg e => (hS g e).2.2.2 g hg rfl), h6.trans (hf.below (Nat.le_of_lt h1.lt) fun k hk => by have := (hS k hk).1; omega), h7⟩
/-- The rows' blocks are there, and are two. -/
theorem DS.lo {w W : World} {q mb : Nat} {m : Msg} {A : Option Addr} {c : Nat} {na : Option Addr} {nc : Nat} {o : Option (List UInt8)} (h : DS w q mb m A c na nc o W) : (∀ g, A = some ⟨g, 0, none⟩ → g < W.heap.size) ∧ (∀ g, na = some ⟨g, 0, none⟩ → g < W.heap.size) ∧ ∀ g, na = some ⟨g, 0, none⟩ → ¬ A = some ⟨g, 0, none⟩ := by
  obtain ⟨_, _, _, h4, h5, _⟩ := h
  refine ⟨fun g e => ?_, fun g e => ?_, fun g e => ?_⟩
  · rcases h4.form with ⟨e1, _⟩ | ⟨g2, e1, _, h, _⟩
    · rw [e] at e1; cases e1
    · rw [e] at e1; injection e1 with e1; injection e1 with e1; rw [e1]; exact h
  · rcases h5.form with ⟨e1, _⟩ | ⟨g2, e1, _, h, _⟩
    · rw [e] at e1; cases e1
    · rw [e] at e1; injection e1 with e1; injection e1 with e1; rw [e1]; exact h
  · rcases h5.2 with ⟨hv, _⟩ | ⟨g2, cap, cur, hv, _, hh, _⟩
    · injection hv with hv; rw [e] at hv; cases hv
    · injection hv with hv _ _
      rw [e] at hv; injection hv with hv; injection hv with hv
      subst hv
      exact blk_ne_ownK (T := 3) (cs := cur) hh h4 (by decide)
/-- The row of ids grew, and its cell was set. -/
theorem DS.appI {w W W' : World} {q mb : Nat} {m : Msg} {xs ys : List (List UInt8 × Int)} {A A' : Option Addr} {c c' N : Nat} {na : Option Addr} {nc : Nat} {o : Option (List UInt8)} (h : DS w q mb { m with ids := xs } A c na nc o W) (ho : OwnK W' q 54 2 A' N c' (ys.flatMap dc)) (hN : ys.length = N) (hg : W.grownBy W' (A.map (·.block))) : DS w q mb { m with ids := ys } A' c' na nc o (W'.setCell ⟨mb, 11, none⟩ (.slice A' N c')) := by
  subst hN
  have hlo := h.lo
  have hn := h.ne
  obtain ⟨h1, h2, h3, h4, h5, h6, h7⟩ := h
  have hA : ∀ k, A.map (·.block) = some k → A = some ⟨k, 0, none⟩ := fun k hk => by
    rcases h4.form with ⟨e1, _⟩ | ⟨g2, e1, _⟩
    · rw [e1] at hk; cases hk
    · rw [e1] at hk ⊢; injection hk with hk; dsimp only at hk; rw [hk]
  have hf : Fr (fun k => A.map (·.block) = some k) W W' := Fr.grown hg fun k h => h
  have hf2 : Fr (fun k => k = mb) W' (W'.setCell ⟨mb, 11, none⟩ (.slice A' ys.length c')) := Fr.setCell (S := fun k => k = mb) (w' := W') (Fr.refl _ W') (p := ⟨mb, 11, none⟩) (fun _ => rfl) _
  have g1 := h1.fr hf (fun e => blk_ne_ownK h1 h4 (by decide) (hA _ e))
  have g2 := h2.fr hf (fun e => blk_ne_ownK h2 h4 (by decide) (hA _ e))
  have hq0 : ∀ k, A.map (·.block) = some k → q ≤ k := fun k hk => by
    rcases h4.form with ⟨e1, _⟩ | ⟨g2, e1, h, _⟩
    · rw [e1] at hk; cases hk
    · rw [e1] at hk; injection hk with hk; dsimp only at hk; omega
  have g3 := h3.fr hf hq0 (fun e => (hn (q + 1) (.inl rfl)).1 _ (hA _ e) rfl)
  have g5 := h5.fr hf (fun g e hk => hlo.2.2 g e (hA _ hk))
  refine ⟨g1.fr hf2 (by omega), g2.set_ 11 (.slice A' ys.length c'), g3.fr hf2 (fun k hk => by omega) (by omega), ho.fr hf2 (fun g e hk => ?_), g5.fr hf2 (fun g e hk => g2.ne_own g5 (by decide) g e hk), (h6.trans (hf.below (Nat.le_of_lt h1.lt) hq0)).trans (hf2.below (Nat.le_of_lt g1.lt) fun k hk => by omega), h7⟩
  subst e
  exact blk_ne_ownK g2 ho (by decide) (by rw [hk])
theorem DS.appN {w W W' : World} {q mb : Nat} {m : Msg} {xs ys : List Int} {A na na' : Option Addr} {c nc nc' N : Nat} {o : Option (List UInt8)} (h : DS w q mb { m with nodes := xs } A c na nc o W) (ho : Mem.Own W' q 3 na' nc' (ys.map iv)) (hN : ys.length = N) (hg : W.grownBy W' (na.map (·.block))) : DS w q mb { m with nodes := ys } A c na' nc' o (W'.setCell ⟨mb, 12, none⟩ (.slice na' N nc')) := by
  subst hN
  have hlo := h.lo
  have hn := h.ne
  obtain ⟨h1, h2, h3, h4, h5, h6, h7⟩ := h
  have hA : ∀ k, na.map (·.block) = some k → na = some ⟨k, 0, none⟩ := fun k hk => by
    rcases h5.form with ⟨e1, _⟩ | ⟨g2, e1, _⟩
    · rw [e1] at hk; cases hk
    · rw [e1] at hk ⊢; injection hk with hk; dsimp only at hk; rw [hk]
  have hf : Fr (fun k => na.map (·.block) = some k) W W' := Fr.grown hg fun k h => h
  have hf2 : Fr (fun k => k = mb) W' (W'.setCell ⟨mb, 12, none⟩ (.slice na' ys.length nc')) := Fr.setCell (S := fun k => k = mb) (w' := W') (Fr.refl _ W') (p := ⟨mb, 12, none⟩) (fun _ => rfl) _
  have g1 := h1.fr hf (fun e => h1.ne_own h5 (by decide) _ (hA _ e) rfl)
  have g2 := h2.fr hf (fun e => h2.ne_own h5 (by decide) _ (hA _ e) rfl)
  have hq0 : ∀ k, na.map (·.block) = some k → q ≤ k := fun k hk => by
    rcases h5.form with ⟨e1, _⟩ | ⟨g2, e1, h, _⟩
    · rw [e1] at hk; cases hk
    · rw [e1] at hk; injection hk with hk; dsimp only at hk; omega
  have g3 := h3.fr hf hq0 (fun e => (hn (q + 1) (.inl rfl)).2 _ (hA _ e) rfl)
  have g4 := h4.fr hf (fun g e hk => hlo.2.2 g (hA _ hk) e)
  refine ⟨g1.fr hf2 (by omega), g2.set_ 12 (.slice na' ys.length nc'), g3.fr hf2 (fun k hk => by omega) (by omega), g4.fr hf2 (fun g e hk => ?_), ho.fr hf2 (fun g e hk => g2.ne_own ho (by decide) g e hk), (h6.trans (hf.below (Nat.le_of_lt h1.lt) hq0)).trans (hf2.below (Nat.le_of_lt g1.lt) fun k hk => by omega), h7⟩
  subst e
  exact blk_ne_ownK g2 g4 (by decide) (by rw [hk])
theorem DS.blkI {w W W' : World} {q mb : Nat} {m : Msg} {A : Option Addr} {c : Nat} {na : Option Addr} {nc : Nat} {o : Option (List UInt8)} (h : DS w q mb m A c na nc o W) (hg : W.grownBy W' (A.map (·.block))) : Blk W' mb 33 (pv m A c na nc) := by
  refine h.2.1.fr (S := fun k => A.map (·.block) = some k) (Fr.grown hg fun k h => h) (fun e => ?_)
  rcases h.2.2.2.1.form with ⟨e1, _⟩ | ⟨g2, e1, _⟩
  · rw [e1] at e; cases e
  · rw [e1] at e; injection e with e; exact (h.ne mb (.inr rfl)).1 g2 e1 e
theorem DS.blkN {w W W' : World} {q mb : Nat} {m : Msg} {A : Option Addr} {c : Nat} {na : Option Addr} {nc : Nat} {o : Option (List UInt8)} (h : DS w q mb m A c na nc o W) (hg : W.grownBy W' (na.map (·.block))) : Blk W' mb 33 (pv m A c na nc) := by
  refine h.2.1.fr (S := fun k => na.map (·.block) = some k) (Fr.grown hg fun k h => h) (fun e => ?_)
  rcases h.2.2.2.2.1.form with ⟨e1, _⟩ | ⟨g2, e1, _⟩
  · rw [e1] at e; cases e
  · rw [e1] at e; injection e with e; exact (h.ne mb (.inr rfl)).2 g2 e1 e
/-- What the document's Get leaves. -/
def RGotR (w : World) (b : List UInt8) (e : Ending) (w' : World) : Prop := Below w.heap.size w w' ∧ match Wi.get b with
  | some m => ∃ A c na nc, e = .returned (.tuple #[.agg (pv m A c na nc), .bool true]) ∧ PIn w' w'.heap.size m A na
  | none => e = .returned (.tuple #[.agg (pv mz none 0 none 0), .bool false])
end Go.Proofs.YtebdmfmadbikaaaDoor.WiW
/- The document's Get. Printed by genwdg.py (raw numbers of the seat). -/
namespace Go.Proofs.YtebdmfmadbikaaaDoor.WiW
open Go.RowKit Go.Shelf Mem Fds FdW Wi Rng
set_option linter.unusedVariables false
set_option linter.unusedSimpArgs false

theorem dinfo2 : (Tryd.prog.info? 54).map (·.size) = some 2 := by kernel_rfl
theorem there_2 {w : World} {g : Nat} {T : TypeId} {cs : Array Value} {x y : Value} (h : Blk w g T cs) (hs : cs.size = 2 := by rfl) : w.there g 0 (#[x, y] : Array Value).size := fun j hj => by
  have hj : j < 2 := hj
  refine ⟨?_, ?_⟩
  · rw [Nat.zero_add, h.cell j, Array.getElem?_eq_getElem (by omega)]; rfl
  · rw [Nat.zero_add]; exact h.frozen j
theorem set_2 {w : World} {g : Nat} {T : TypeId} {a b : Value} (h : Blk w g T #[a, b]) (x y : Value) : Blk (w.setCells g 0 (#[x, y] : Array Value).toList) g T #[x, y] := by
  have h4 := blk_setCells (#[x, y] : Array Value).toList 0 w _ h
  have e : setAll #[a, b] 0 (#[x, y] : Array Value).toList = #[x, y] := by simp [setAll]
  rw [e] at h4; exact h4
/-- A guarded load that is carried out. -/
theorem wpList_load_on {ops : Array Oper} {rest : List Oper} {op : Oper} {a : Act} {w : World} {Q : Exit → Act → World → Prop} (hw : Region.wanted op (yielded ops a.tmps) = true) (ty : TypeId) (x : Operand) (ho : op.op = .load ty x) (q v : Value) (hx : a.eval x = q) (hl : (Instr.loadAt ty q).run Tryd.prog w = .ok v w)
    (h : wpList Tryd.prog ops Q rest (a.put op.dst v) w) : wpList Tryd.prog ops Q (op :: rest) a w := by
  refine BigFrame.wpList_want hw fun K hK => ?_
  unfold Oper.wp execOp
  simp only [ho, Sem.run_bind, Sem.run_pure, Result.andThen_ok, hx, hl]
  exact hK _ _ h
/-- The results are the box at q and a truth value. -/
theorem ret_box (T : Array Value) (W : World) (q : Nat) (m : Msg) (A : Option Addr) (k c : Nat) (na : Option Addr) (nc : Nat) (fl : Bool) (h2 : T.getD 2 undef = .pointer (some ⟨q, 0, none⟩)) (h3 : T.getD 3 undef = .bool fl) (hB : Blk W q 33 (pvk m A k c na nc)) :
    (results Tryd.f16 T).run Tryd.prog W = .ok (.tuple #[.agg (pvk m A k c na nc), .bool fl]) W := by
  have e0 := hB.cell 0
  have e1 := hB.cell 1
  have e2 := hB.cell 2
  have e3 := hB.cell 3
  have e4 := hB.cell 4
  have e5 := hB.cell 5
  have e6 := hB.cell 6
  have e7 := hB.cell 7
  have e8 := hB.cell 8
  have e9 := hB.cell 9
  have e10 := hB.cell 10
  have e11 := hB.cell 11
  have e12 := hB.cell 12
  have e13 := hB.cell 13
  simp [pvk] at e0 e1 e2 e3 e4 e5 e6 e7 e8 e9 e10 e11 e12 e13
  simp only [results, Tryd.results16]
  simp only [Array.getD_eq_getD_getElem?] at h2 h3
  simp [go_sem, h2, h3, e0, e1, e2, e3, e4, e5, e6, e7, e8, e9, e10, e11, e12, e13]
  rfl
set_option maxRecDepth 100000 in
set_option maxHeartbeats 64000000 in
theorem rget_any (w : World) (A : Option Addr) (b : List UInt8) (n c : Nat) (hn : n = b.length) (hnc : n ≤ c) (hcc : c ≤ 9223372036854775807) (hA : Bytes w w.heap.size A b) (hbl : b.length ≤ 1000000) :
    Calls Tryd.prog 16 #[.slice A n c] w (RGotR w b) := by
  subst hn
  obtain ⟨q, hq⟩ : ∃ q, w.heap.size = q := ⟨_, rfl⟩
  have hbr : ∀ (W : World) (A : Option Addr) (n c : Nat), (Instr.build 80 #[(0, .slice A n c)]).run Tryd.prog W = .ok (.agg #[.slice A n c, .bool false]) W := fun W A n c => by kernel_rfl
  have hbm : ∀ (W : World) (k : Int), (Instr.build 33 #[(0, .int .u8 k)]).run Tryd.prog W = .ok (.agg #[.int .u8 k, .int .i64 0, .int .i64 0, .int .i64 0, .string { data := #[] }, .int .i64 0, .int .i64 0, .int .i64 0, .int .i64 0, .int .i64 0, .bool false, .slice none 0 0, .slice none 0 0, .string { data := #[] }]) W := fun W k => by kernel_rfl
  have hbz : ∀ (W : World), (Instr.build 33 #[]).run Tryd.prog W = .ok (.agg #[.int .u8 0, .int .i64 0, .int .i64 0, .int .i64 0, .string { data := #[] }, .int .i64 0, .int .i64 0, .int .i64 0, .int .i64 0, .int .i64 0, .bool false, .slice none 0 0, .slice none 0 0, .string { data := #[] }]) W := fun W => by kernel_rfl
  obtain ⟨w2, hw2⟩ : ∃ w2 : World, (w.alloc (.cells #[.int .u8 0, .int .i64 0, .int .i64 0, .int .i64 0, .string { data := #[] }, .int .i64 0, .int .i64 0, .int .i64 0, .int .i64 0, .int .i64 0, .bool false, .slice none 0 0, .slice none 0 0, .string { data := #[] }] 33)).alloc (.cells #[.slice A b.length c, .bool false] 80) = w2 := ⟨_, rfl⟩
  have hb2 : Below w.heap.size w w2 := by rw [← hw2]; exact nextA (nextA (Mem.start w) _) _
  have H2 := Lib.hid (show Blk w2 q 33 (pv mz none 0 none 0) ∧ RdD w2 q (q + 1) (some b) ∧ Below q w w2 ∧ w2.heap.size = q + 2 by
    rw [← hq]
    refine ⟨?_, ⟨by omega, A, b.length, c, ?_, fun l e => ?_⟩, hb2, by rw [← hw2]; simp⟩
    · rw [← hw2]; exact (Blk.new w _ _).keep (nextA (Mem.start _) _)
    · rw [← hw2]
      have := Blk.new (w.alloc (.cells #[.int .u8 0, .int .i64 0, .int .i64 0, .int .i64 0, .string { data := #[] }, .int .i64 0, .int .i64 0, .int .i64 0, .int .i64 0, .int .i64 0, .bool false, .slice none 0 0, .slice none 0 0, .string { data := #[] }] 33)) 80 #[.slice A b.length c, .bool false]
      rw [World.size_alloc] at this; exact this
    · injection e with e; subst e; exact ⟨rfl, hA.below hb2, hnc, hcc⟩)
  have HBL := Lib.hid hbl
  have HQ := Lib.hid hq
  clear hb2 hA hnc hcc hbl
  go_enter Tryd.func16, Tryd.ntmps16
  go_wp2_with fail
  try simp only [hq]
  try rw [hw2]
  refine (dnumber_any w2 q (q + 1) 1 _ H2.out.2.1 (by decide)).mono ?_
  rintro e w3 ⟨hf, v1, rfl, hv1, hr⟩
  obtain ⟨k, hk1, hk2, hk3⟩ := getD_small (o := some b) (n := 1) (Nat.le_refl _)
  rw [hk1] at hv1
  subst hv1
  have hwk : IntKind.u8.wrap (k : Int) = (k : Int) := by
    have e : ∀ x : Int, IntKind.u8.wrap x = x % 256 := fun _ => rfl
    rw [e]; omega
  obtain ⟨mb, hmb⟩ : ∃ mb, w3.heap.size = mb := ⟨_, rfl⟩
  obtain ⟨o1, ho1⟩ : ∃ o1, ((some b).bind (rnum 1)).map (·.2) = o1 := ⟨_, rfl⟩
  rw [ho1] at hr
  have hB3 := Blk.new w3 33 #[.int .u8 0, .int .i64 0, .int .i64 0, .int .i64 0, .string { data := #[] }, .int .i64 0, .int .i64 0, .int .i64 0, .int .i64 0, .int .i64 0, .bool false, .slice none 0 0, .slice none 0 0, .string { data := #[] }]
  rw [hmb] at hB3
  obtain ⟨w4, hw4⟩ : ∃ w4 : World, (w3.alloc (.cells #[.int .u8 0, .int .i64 0, .int .i64 0, .int .i64 0, .string { data := #[] }, .int .i64 0, .int .i64 0, .int .i64 0, .int .i64 0, .int .i64 0, .bool false, .slice none 0 0, .slice none 0 0, .string { data := #[] }] 33)).setCells mb 0 (pvk (msg0 k 0 0) none 0 0 none 0).toList = w4 := ⟨_, rfl⟩
  have hf4 : Fr (fun k => k = mb) (w3.alloc (.cells #[.int .u8 0, .int .i64 0, .int .i64 0, .int .i64 0, .string { data := #[] }, .int .i64 0, .int .i64 0, .int .i64 0, .int .i64 0, .int .i64 0, .bool false, .slice none 0 0, .slice none 0 0, .string { data := #[] }] 33)) w4 := by rw [← hw4]; exact fr_setCells (S := fun k => k = mb) rfl _ _ _ (Fr.refl _ _)
  have H4 := Lib.hid (show DS w q mb (msg0 k 0 0) none 0 none 0 o1 w4 by
    have hsz := hf.size
    have hs2 := H2.out.2.2.2
    refine ⟨((H2.out.1.fr hf (by omega)).keep (nextA (Mem.start _) _)).fr hf4 (by omega), ?_, (hr.keep (nextA (Mem.start _) _)).fr hf4 (fun k hk => by omega) (by omega), OwnK.nil, Own.nil, (H2.out.2.2.1.trans ((hf.below (B := q) (by omega) fun k hk => by omega).trans ((nextA (Mem.start w3) _).mono (by omega)))).trans (hf4.below (by simp; omega) fun k hk => by omega), by omega⟩
    rw [← hw4]
    exact set14p hB3 (msg0 k 0 0) none 0 0 none 0)
  have HB3 := Lib.hid hB3
  have HK := Lib.hid (And.intro hk2 hk3)
  have HO1 := Lib.hid ho1
  have HW2 := Lib.hid hw2
  clear hf hr hk1 hk2 hk3 ho1 hw2 hB3 hf4
  go_wp2_with ((with_reducible show wpList _ _ _ ((⟨none, .store _ _ _, _, _, _, _⟩ : Oper) :: _) _ _); refine wpList_store_mid rfl 33 (.tmp 5) (.tmp 20) rfl mb 0 (pvk (msg0 k 0 0) none 0 0 none 0) (by simp [Act.eval, hmb]) rfl (there_p HB3.out) pinfo (pvk_one _ _ _ _ _ _) ?_)
  try simp only [hmb]
  try rw [hw4]
  clear hbr hbm hw4

  refine (dnumber_any w4 q (q + 1) 2 _ H4.out.2.2.1 (by decide)).mono ?_
  rintro e w5 ⟨hf, v2, rfl, hv2, hr⟩
  obtain ⟨o2, ho2⟩ : ∃ o2, (o1.bind (rnum 2)).map (·.2) = o2 := ⟨_, rfl⟩
  rw [ho2] at hr
  have H5 := Lib.hid (H4.out.rd hf hr)
  have c0 := H5.out.2.1.cell 1
  have z0 := H5.out.2.1.frozen 1
  simp [pv, pvk] at c0
  have HV2 := Lib.hid (And.intro hv2 ho2)
  clear hf hr hv2 ho2
  go_wp2_with fail
  have H6 := Lib.hid (H5.out.put (m' := { msg0 k 0 0 with frm := v2 }) 1 (.int .i64 v2) rfl rfl rfl)
  clear c0 z0
  obtain ⟨w6, hw6⟩ : ∃ x, w5.setCell ⟨mb, 1, none⟩ (.int .i64 v2) = x := ⟨_, rfl⟩
  rw [hw6] at H6 ⊢
  clear hw6
  refine (dnumber_any w6 q (q + 1) 2 _ H6.out.2.2.1 (by decide)).mono ?_
  rintro e w7 ⟨hf, v3, rfl, hv3, hr⟩
  obtain ⟨o3, ho3⟩ : ∃ o3, (o2.bind (rnum 2)).map (·.2) = o3 := ⟨_, rfl⟩
  rw [ho3] at hr
  have H7 := Lib.hid (H6.out.rd hf hr)
  have c0 := H7.out.2.1.cell 2
  have z0 := H7.out.2.1.frozen 2
  have c1 := H7.out.2.1.cell 0
  have z1 := H7.out.2.1.frozen 0
  simp [pv, pvk] at c0 c1
  have HV3 := Lib.hid (And.intro hv3 ho3)
  clear hf hr hv3 ho3
  go_wp2_with fail
  refine (has_any _ k HK.out.1).mono ?_
  rintro e w8 ⟨rfl, rfl⟩
  have H8 := Lib.hid (H7.out.put (m' := { msg0 k 0 0 with frm := v2, to_ := v3 }) 2 (.int .i64 v3) rfl rfl rfl)
  clear c0 z0 c1 z1
  obtain ⟨w8, hw8⟩ : ∃ x, w7.setCell ⟨mb, 2, none⟩ (.int .i64 v3) = x := ⟨_, rfl⟩
  rw [hw8] at H8 ⊢
  clear hw8
  obtain ⟨m0, hm0⟩ : ∃ m0, msg0 k v2 v3 = m0 := ⟨_, rfl⟩
  have HM0 := Lib.hid (show k = m0.kind by rw [← hm0]; rfl)
  have HG := Lib.hid (show Wi.get b = (o3.bind (rfs (flds k) m0)).bind fun p => if p.2.length = 0 ∧ may p.1 = true then some p.1 else none by
    have := get_of (rhead_of (b := b) (fun x hx => HK.out.2 x hx) HO1.out.symm HV2.out.1 HV2.out.2.symm HV3.out.1 HV3.out.2.symm)
    rw [hm0] at this
    rw [this, ← hm0]; rfl)
  have HSZ := Lib.hid (get_sz (rhead_of (b := b) (fun x hx => HK.out.2 x hx) HO1.out.symm HV2.out.1 HV2.out.2.symm HV3.out.1 HV3.out.2.symm) rfl HBL.out)
  rw [hm0] at HSZ
  have HJ0 := Lib.hid (show DJ w q mb m0 o3 ((flds k).take (1 - 1)) w8 by
    refine ⟨m0, none, 0, none, 0, ?_, fun x hx => ?_, rfl, fun _ => ⟨by rw [← hm0]; rfl, rfl, rfl⟩, fun _ => ⟨by rw [← hm0]; rfl, rfl, rfl⟩⟩
    · have e : (o3.bind (rfs ((flds k).take (1 - 1)) m0)).map (·.2) = o3 := by cases o3 <;> rfl
      rw [e, ← hm0]; exact H8.out
    · cases o3 with
      | none => cases hx
      | some l => injection hx with hx; rw [← hx])
  obtain ⟨S, hS⟩ : ∃ S, hasS k = S := ⟨_, rfl⟩
  rw [hS]
  have HSS := Lib.hid hS
  clear hS hm0 hwk
  go_wp2_with fail
  obtain ⟨N, hN⟩ : ∃ N, S.length = N := ⟨_, rfl⟩
  have hz : (str S).size = N := by rw [str_size, hN]
  have HN := Lib.hid (show N ≤ 6 by rw [← hN, ← HSS.out]; exact hasS_len k)
  have HNN := Lib.hid hN
  have hN6 : (N : Int) ≤ 6 := by have := HN.out; omega
  clear hN
  go_loopw [7] (fun i wr => ∃ j : Nat, i = .int .i64 (j : Int) ∧ 1 ≤ j ∧ j ≤ 7 ∧ DJ w q mb m0 o3 ((flds k).take (j - 1)) wr) (fun i _ => 7 - (intOf i).toNat)
  case atStart => exact ⟨1, rfl, Nat.le_refl _, by decide, HJ0.out⟩
  case round =>
    obtain ⟨j, rfl, hj1, hj7, hI⟩ := hrel
    by_cases hjn : j < N
    · have h1 : (j : Int) < (N : Int) := by omega
      have h0 : (0 : Int) ≤ (j : Int) := by omega
      have hjs : j < (str S).size := by rw [hz]; exact hjn
      obtain ⟨f, hf, hl, ht, hnf⟩ := hasS_at (k := k) hj1 (by rw [HSS.out, HNN.out]; exact hjn)
      rw [HSS.out] at hl
      have hg := str_at hl hjs
      obtain ⟨m, A1, c1, na, nc, hD, hx, hk, h8, h9⟩ := hI
      obtain ⟨oo, hoo⟩ : ∃ oo, (o3.bind (rfs ((flds k).take (j - 1)) m0)).map (·.2) = oo := ⟨_, rfl⟩
      have HNX := Lib.hid (show ∀ W, FR w q mb m A1 c1 na nc oo f W → DJ w q mb m0 o3 ((flds k).take (j + 1 - 1)) W from fun W h => by
        rw [Nat.add_sub_cancel, ht]
        exact DJ.next hx hk h8 h9 (by rw [hoo]; exact h))
      have H89 := Lib.hid (show (f = 8 → m.ids = [] ∧ A1 = none ∧ c1 = 0) ∧ (f = 9 → m.nodes = [] ∧ na = none ∧ nc = 0) from ⟨fun e => h8 (by rw [← e]; exact hnf), fun e => h9 (by rw [← e]; exact hnf)⟩)
      rw [hoo] at hD
      have HD := Lib.hid hD
      have HJN := Lib.hid (And.intro hjn (And.intro hj1 (show N ≤ 6 from HN.out)))
      clear hl ht hnf hx hk h8 h9 hoo hD hj1 hj7
      have hfc : f = 0 ∨ f = 1 ∨ f = 2 ∨ f = 3 ∨ f = 4 ∨ f = 5 ∨ f = 6 ∨ f = 7 ∨ f = 8 ∨ f = 9 ∨ f = 10 := by omega
      clear hf
      rcases hfc with rfl | rfl | rfl | rfl | rfl | rfl | rfl | rfl | rfl | rfl | rfl

      · as_aux_lemma =>
        have hg2 : (str S)[j] = (82 : UInt8) := hg
        clear hg
        go_wp2_with fail
        refine (dnumber_any wr q (q + 1) 8 _ HD.out.2.2.1 (by decide)).mono ?_
        rintro e w9 ⟨hf, v, rfl, hv, hr⟩
        have H9 := Lib.hid (HD.out.rd hf hr)
        have c9 := H9.out.2.1.cell 3
        have z9 := H9.out.2.1.frozen 3
        simp [pv, pvk] at c9
        have HV := Lib.hid hv
        clear hf hr hv
        have HFIN := Lib.hid (HNX.out _ (FR.num (n := 8) (v := v) (fun x => { m with req := x }) (fun l => rfl) HV.out ⟨rfl, rfl, rfl⟩ (H9.out.put (m' := { m with req := v }) 3 (.int .i64 v) rfl rfl rfl)))
        go_wp2_with fail
        go_roundw
        case rel => exact ⟨j + 1, by go_num, by omega, by have := HJN.out; omega, HFIN.out⟩
        case measure => simp [intOf]; have := HJN.out; omega
      · as_aux_lemma =>
        have hg2 : (str S)[j] = (75 : UInt8) := hg
        clear hg
        go_wp2_with fail
        refine (dtext_any wr q (q + 1) 1 _ HD.out.2.2.1 (by decide)).mono ?_
        rintro e w9 ⟨hf, v, rfl, hv, hr⟩
        have H9 := Lib.hid (HD.out.rd hf hr)
        have c9 := H9.out.2.1.cell 4
        have z9 := H9.out.2.1.frozen 4
        simp [pv, pvk] at c9
        have HV := Lib.hid hv
        clear hf hr hv
        have HFIN := Lib.hid (HNX.out _ (FR.txt (n := 1) (v := v) (fun x => { m with key := x }) (fun l => rfl) HV.out ⟨rfl, rfl, rfl⟩ (H9.out.put (m' := { m with key := v }) 4 (.string (str v)) rfl rfl rfl)))
        go_wp2_with fail
        go_roundw
        case rel => exact ⟨j + 1, by go_num, by omega, by have := HJN.out; omega, HFIN.out⟩
        case measure => simp [intOf]; have := HJN.out; omega
      · as_aux_lemma =>
        have hg2 : (str S)[j] = (86 : UInt8) := hg
        clear hg
        go_wp2_with fail
        refine (dnumber_any wr q (q + 1) 8 _ HD.out.2.2.1 (by decide)).mono ?_
        rintro e w9 ⟨hf, v, rfl, hv, hr⟩
        have H9 := Lib.hid (HD.out.rd hf hr)
        have c9 := H9.out.2.1.cell 5
        have z9 := H9.out.2.1.frozen 5
        simp [pv, pvk] at c9
        have HV := Lib.hid hv
        clear hf hr hv
        have HFIN := Lib.hid (HNX.out _ (FR.num (n := 8) (v := v) (fun x => { m with ver := x }) (fun l => rfl) HV.out ⟨rfl, rfl, rfl⟩ (H9.out.put (m' := { m with ver := v }) 5 (.int .i64 v) rfl rfl rfl)))
        go_wp2_with fail
        go_roundw
        case rel => exact ⟨j + 1, by go_num, by omega, by have := HJN.out; omega, HFIN.out⟩
        case measure => simp [intOf]; have := HJN.out; omega
      · as_aux_lemma =>
        have hg2 : (str S)[j] = (73 : UInt8) := hg
        clear hg
        go_wp2_with fail
        refine (dnumber_any wr q (q + 1) 8 _ HD.out.2.2.1 (by decide)).mono ?_
        rintro e w9 ⟨hf, v, rfl, hv, hr⟩
        have H9 := Lib.hid (HD.out.rd hf hr)
        have c9 := H9.out.2.1.cell 6
        have z9 := H9.out.2.1.frozen 6
        simp [pv, pvk] at c9
        have HV := Lib.hid hv
        clear hf hr hv
        have HFIN := Lib.hid (HNX.out _ (FR.num (n := 8) (v := v) (fun x => { m with inc := x }) (fun l => rfl) HV.out ⟨rfl, rfl, rfl⟩ (H9.out.put (m' := { m with inc := v }) 6 (.int .i64 v) rfl rfl rfl)))
        go_wp2_with fail
        go_roundw
        case rel => exact ⟨j + 1, by go_num, by omega, by have := HJN.out; omega, HFIN.out⟩
        case measure => simp [intOf]; have := HJN.out; omega
      · as_aux_lemma =>
        have hg2 : (str S)[j] = (83 : UInt8) := hg
        clear hg
        go_wp2_with fail
        refine (dnumber_any wr q (q + 1) 4 _ HD.out.2.2.1 (by decide)).mono ?_
        rintro e w9 ⟨hf, v, rfl, hv, hr⟩
        have H9 := Lib.hid (HD.out.rd hf hr)
        have c9 := H9.out.2.1.cell 7
        have z9 := H9.out.2.1.frozen 7
        simp [pv, pvk] at c9
        have HV := Lib.hid hv
        clear hf hr hv
        have HFIN := Lib.hid (HNX.out _ (FR.num (n := 4) (v := v) (fun x => { m with size := x }) (fun l => rf_sgn (n := 4) (by decide) l (fun x : Int => ({ m with size := x } : Msg))) HV.out ⟨rfl, rfl, rfl⟩ (H9.out.put (m' := { m with size := v }) 7 (.int .i64 v) rfl rfl rfl)))
        go_wp2_with fail
        go_roundw
        case rel => exact ⟨j + 1, by go_num, by omega, by have := HJN.out; omega, HFIN.out⟩
        case measure => simp [intOf]; have := HJN.out; omega
      · as_aux_lemma =>
        have hg2 : (str S)[j] = (67 : UInt8) := hg
        clear hg
        go_wp2_with fail
        refine (dnumber_any wr q (q + 1) 2 _ HD.out.2.2.1 (by decide)).mono ?_
        rintro e w9 ⟨hf, v, rfl, hv, hr⟩
        have H9 := Lib.hid (HD.out.rd hf hr)
        have c9 := H9.out.2.1.cell 8
        have z9 := H9.out.2.1.frozen 8
        simp [pv, pvk] at c9
        have HV := Lib.hid hv
        clear hf hr hv
        have HFIN := Lib.hid (HNX.out _ (FR.num (n := 2) (v := v) (fun x => { m with code := x }) (fun l => rf_sgn (n := 2) (by decide) l (fun x : Int => ({ m with code := x } : Msg))) HV.out ⟨rfl, rfl, rfl⟩ (H9.out.put (m' := { m with code := v }) 8 (.int .i64 v) rfl rfl rfl)))
        go_wp2_with fail
        go_roundw
        case rel => exact ⟨j + 1, by go_num, by omega, by have := HJN.out; omega, HFIN.out⟩
        case measure => simp [intOf]; have := HJN.out; omega
      · as_aux_lemma =>
        have hg2 : (str S)[j] = (78 : UInt8) := hg
        clear hg
        go_wp2_with fail
        refine (dnumber_any wr q (q + 1) 2 _ HD.out.2.2.1 (by decide)).mono ?_
        rintro e w9 ⟨hf, v, rfl, hv, hr⟩
        have H9 := Lib.hid (HD.out.rd hf hr)
        have c9 := H9.out.2.1.cell 9
        have z9 := H9.out.2.1.frozen 9
        simp [pv, pvk] at c9
        have HV := Lib.hid hv
        clear hf hr hv
        have HFIN := Lib.hid (HNX.out _ (FR.num (n := 2) (v := v) (fun x => { m with node := x }) (fun l => rf_sgn (n := 2) (by decide) l (fun x : Int => ({ m with node := x } : Msg))) HV.out ⟨rfl, rfl, rfl⟩ (H9.out.put (m' := { m with node := v }) 9 (.int .i64 v) rfl rfl rfl)))
        go_wp2_with fail
        go_roundw
        case rel => exact ⟨j + 1, by go_num, by omega, by have := HJN.out; omega, HFIN.out⟩
        case measure => simp [intOf]; have := HJN.out; omega
      · as_aux_lemma =>
        have hg2 : (str S)[j] = (66 : UInt8) := hg
        clear hg
        go_wp2_with fail
        refine (dnumber_any wr q (q + 1) 1 _ HD.out.2.2.1 (by decide)).mono ?_
        rintro e w9 ⟨hf, v, rfl, hv, hr⟩
        obtain ⟨k1, hk1, hk2, hk3⟩ := getD_small (o := oo) (n := 1) (Nat.le_refl _)
        rw [hk1] at hv
        subst hv
        have H9 := Lib.hid (HD.out.rd hf hr)
        have c9 := H9.out.2.1.cell 10
        have z9 := H9.out.2.1.frozen 10
        simp [pv, pvk] at c9
        have HKK := Lib.hid (And.intro hk1 (And.intro hk2 hk3))
        obtain ⟨o9, ho9⟩ : ∃ o9, (oo.bind (rnum 1)).map (·.2) = o9 := ⟨_, rfl⟩
        rw [ho9] at H9
        have HO9 := Lib.hid ho9
        clear hf hr hk1 hk2 hk3 ho9
        have eb : ((k1 : Int) == 1) = decide (k1 = 1) := by rw [Bool.eq_iff_iff, beq_iff_eq, decide_eq_true_iff]; omega
        have eg : decide ((1 : Int) < (k1 : Int)) = decide (1 < k1) := by rw [Bool.eq_iff_iff, decide_eq_true_iff, decide_eq_true_iff]; omega
        have HA := Lib.hid (H9.out.put (m' := { m with back := decide (k1 = 1) }) 10 (.bool (decide (k1 = 1))) rfl rfl rfl)
        have HB := Lib.hid (HA.out.turn (decide (1 < k1)))
        have HFIN := Lib.hid (HNX.out _ (FR.back HKK.out.2.2 (by rw [HO9.out]; exact HB.out)))
        obtain ⟨dA, hdA⟩ : ∃ d, decide (k1 = 1) = d := ⟨_, rfl⟩
        obtain ⟨dB, hdB⟩ : ∃ d, decide (1 < k1) = d := ⟨_, rfl⟩
        rw [hdA] at eb
        rw [hdB] at eg
        rw [hdA, hdB] at HFIN
        rw [hdA] at HA
        rw [hdB] at HB
        have hR8 := H9.out.2.2.1
        obtain ⟨_, A8, n8, d8, hB8, _⟩ := hR8
        have y8 := hB8.frozen 1
        have hR9 := HA.out.2.2.1
        obtain ⟨_, A9, n9, d9, hB9, _⟩ := hR9
        have b9 := hB9.cell 1
        have y9 := hB9.frozen 1
        simp at b9
        clear hB9 hB8 hdA hdB HB HA HKK HO9
        rcases o9 with _ | l9
        · simp only [Option.isNone_none, Option.isNone_some, Bool.true_or, Bool.false_or] at HFIN b9
          go_wp2_with fail
          go_roundw
          case rel => exact ⟨j + 1, by go_num, by omega, by have := HJN.out; omega, HFIN.out⟩
          case measure => simp [intOf]; have := HJN.out; omega
        · simp only [Option.isNone_none, Option.isNone_some, Bool.true_or, Bool.false_or] at HFIN b9
          go_wp2_with fail
          go_roundw
          case rel => exact ⟨j + 1, by go_num, by omega, by have := HJN.out; omega, HFIN.out⟩
          case measure => simp [intOf]; have := HJN.out; omega
      · as_aux_lemma =>
        have hg2 : (str S)[j] = (68 : UInt8) := hg
        clear hg
        go_wp2_with fail
        refine (dnumber_any wr q (q + 1) 1 _ HD.out.2.2.1 (by decide)).mono ?_
        rintro e w9 ⟨hf, v, rfl, hv, hr⟩
        obtain ⟨k1, hk1, hk2, hk3⟩ := getD_small (o := oo) (n := 1) (Nat.le_refl _)
        rw [hk1] at hv
        subst hv
        have H9 := Lib.hid (HD.out.rd hf hr)
        obtain ⟨o9, ho9⟩ : ∃ o9, (oo.bind (rnum 1)).map (·.2) = o9 := ⟨_, rfl⟩
        rw [ho9] at H9
        have HKK := Lib.hid (And.intro hk2 (And.intro hk3 ho9))
        have hmm : ({ m with ids := [] } : Msg) = m := by have := (H89.out.1 (by simp)).1; cases m; dsimp only at this; subst this; rfl
        have HI0 := Lib.hid (show IJ w q mb m na nc o9 0 w9 from ⟨[], A1, c1, rfl, by rw [hmm, show (o9.bind (rids 0)).map (·.2) = o9 from by cases o9 <;> rfl]; exact H9.out, fun x hx => by cases o9 with | none => cases hx | some l => injection hx with hx; rw [← hx]⟩)
        have h10 : (0 : Int) ≤ (k1 : Int) := by omega
        have h11 : (k1 : Int) ≤ 255 := by omega
        have hbi : ∀ (W : World) (x : ByteArray), (Instr.build 54 #[(0, .string x)]).run Tryd.prog W = .ok (.agg #[.string x, .int .i64 0]) W := fun W x => by kernel_rfl
        clear hf hr hk1 hk2 hk3 ho9 hmm
        go_wp2_with fail
        go_loopw [10] (fun i wr => ∃ j2 : Nat, i = .int .i64 (j2 : Int) ∧ j2 ≤ k1 ∧ IJ w q mb m na nc o9 j2 wr) (fun i _ => k1 - (intOf i).toNat)
        case atStart => exact ⟨0, rfl, Nat.zero_le _, HI0.out⟩
        case round =>
          obtain ⟨j2, rfl, hj2, hNJ⟩ := hrel
          by_cases hjk : j2 < k1
          · have g1 : (j2 : Int) < (k1 : Int) := by omega
            have g0 : (0 : Int) ≤ (j2 : Int) := by omega
            have HNJ := Lib.hid hNJ
            obtain ⟨xs, A2, c2, hxl, hDS, hxs⟩ := hNJ
            obtain ⟨o2, ho2⟩ : ∃ o2, (o9.bind (rids j2)).map (·.2) = o2 := ⟨_, rfl⟩
            rw [ho2] at hDS
            have HDS := Lib.hid hDS
            have HXL := Lib.hid hxl
            have HXS := Lib.hid (And.intro ho2 hxs)
            have HJK := Lib.hid hjk
            obtain ⟨_, A', n', d', hB', _⟩ := hDS.2.2.1
            have b1 := hB'.cell 1
            simp at b1
            clear hB' hxs hDS
            rcases o2 with _ | l
            · have HFIN := Lib.hid (HNX.out _ (IJ.done (A := A1) (na := na) (c := c1) (nc := nc) (H89.out.1 (by simp)).1 HKK.out.2.1 HKK.out.2.2.symm HNJ.out hj2 (.inr (by rw [Option.map_eq_none_iff] at ho2; exact ho2))))
              simp only [Option.isNone_none] at b1
              clear ho2 hxl hbi
              go_wp2_with fail
              go_roundw
              case rel => exact ⟨j + 1, by go_num, by omega, by have := HJN.out; omega, HFIN.out⟩
              case measure => simp [intOf]; have := HJN.out; omega
            · simp only [Option.isNone_some] at b1
              clear ho2 hxl
              go_wp2_with fail
              refine (dtext_any wr q (q + 1) 1 (some l) HDS.out.2.2.1 (by decide)).mono ?_
              rintro e w10 ⟨hf, sx, rfl, hs, hr⟩
              obtain ⟨o10, ho10⟩ : ∃ o10, ((some l).bind (rtx 1)).map (·.2) = o10 := ⟨_, rfl⟩
              rw [ho10] at hr
              have H10 := Lib.hid (HDS.out.rd hf hr)
              have HSX := Lib.hid (And.intro hs ho10)
              obtain ⟨kb, hkb⟩ : ∃ kb, w10.heap.size = kb := ⟨_, rfl⟩
              clear hf hs hr ho10
              go_wp2_with fail
              have hB0 := Blk.new w10 54 #[.string (str sx), .int .i64 0]
              rw [hkb] at hB0
              obtain ⟨w11, hw11⟩ : ∃ x, w10.alloc (.cells #[.string (str sx), .int .i64 0] 54) = x := ⟨_, rfl⟩
              have H11 := Lib.hid (show DS w q mb { m with ids := xs } A2 c2 na nc o10 w11 ∧ Blk w11 kb 54 #[.string (str sx), .int .i64 0] ∧ q + 1 < kb ∧ kb ≠ mb ∧ (∀ g, A2 = some ⟨g, 0, none⟩ → g ≠ kb) ∧ (∀ g, na = some ⟨g, 0, none⟩ → g ≠ kb) from by
                have hlo := H10.out.lo
                have hmbl := H10.out.2.1.lt
                have hmq := H10.out.2.2.2.2.2.2
                rw [hkb] at hlo hmbl
                have hne : q + 1 < kb ∧ kb ≠ mb ∧ (∀ g, A2 = some ⟨g, 0, none⟩ → g ≠ kb) ∧ (∀ g, na = some ⟨g, 0, none⟩ → g ≠ kb) := ⟨by omega, by omega, fun g e => by have := hlo.1 g e; omega, fun g e => by have := hlo.2.1 g e; omega⟩
                exact ⟨by rw [← hw11]; exact H10.out.keep (nextA (Mem.start w10) _), by rw [← hw11]; exact hB0, hne⟩)
              clear hB0
              rw [hw11]
              clear hw11
              refine (dnumber_any w11 q (q + 1) 8 o10 H11.out.1.2.2.1 (by decide)).mono ?_
              rintro e w12 ⟨hf, v, rfl, hv, hr⟩
              have H12 := Lib.hid (And.intro (H11.out.1.rd hf hr) (H11.out.2.1.fr hf (by have := H11.out.2.2.1; omega)))
              have HV := Lib.hid hv
              clear hf hr hv
              have k1c := H12.out.2.cell 1
              have k1z := H12.out.2.frozen 1
              simp at k1c
              obtain ⟨w13, hw13⟩ : ∃ x, w12.setCell ⟨kb, 1, none⟩ (.int .i64 v) = x := ⟨_, rfl⟩
              have hf13 : Fr (fun k => k = kb) w12 w13 := by rw [← hw13]; exact Fr.setCell (S := fun k => k = kb) (w' := w12) (Fr.refl _ w12) (p := ⟨kb, 1, none⟩) (fun _ => rfl) _
              have H13 := Lib.hid (show DS w q mb { m with ids := xs } A2 c2 na nc _ w13 ∧ Blk w13 kb 54 #[.string (str sx), .int .i64 v] from ⟨H12.out.1.frS hf13 (fun k hk => by subst hk; exact H11.out.2.2), by rw [← hw13]; exact H12.out.2.set_ 1 (.int .i64 v)⟩)
              have c11 := H13.out.1.2.1.cell 11
              simp [pv, pvk] at c11
              rw [HXL.out] at c11
              have H14 := Lib.hid (H13.out.1.keep (nextA (Mem.start w13) (.cells (dc (sx, v)).toArray 54)))
              clear hf13
              go_upto_region 35 with fail
              try rw [hw13]
              clear hw13 k1c k1z
              obtain ⟨i0, hi0, hz0, hz1, hz2⟩ := info_parts didinfo
              go_wp2_with (first | ((with_reducible show wpList _ _ _ ((⟨some 116, _, _, _, _, _⟩ : Oper) :: _) _ _); refine wpList_load_mid rfl 54 (.tmp 11) rfl kb 0 rfl (#[.string (str sx), .int .i64 v] : Array Value).toList _ (range_of H13.out.2) Tryd.underlying54 rfl dinfo2 ?_) | ((with_reducible show wpList _ _ _ ((⟨some 118, _, _, _, _, _⟩ : Oper) :: _) _ _); refine wpList_appK (w13.alloc (.cells (dc (sx, v)).toArray 54)) rfl (.tmp 115) (.tmp 117) 31 (by rfl) q 54 i0 _ 2 24 Tryd.underlying31 hi0 hz0 hz1 hz2 (by rfl) (by decide) A2 c2 j2 (xs.flatMap dc) (by rfl) (by have := H14.out.2.2.2.1; dsimp only at this; rw [HXL.out] at this; exact this) (w13.heap.size + 1) (some ⟨w13.heap.size, 0, none⟩) 1 1 (dc (sx, v)) (by rfl) ?cl (by rfl) (dc_one _) (by have := HKK.out.1; have := HJK.out; unfold maxLen; omega) (by have := HKK.out.1; have := HJK.out; omega) (Nat.le_of_lt H14.out.1.lt) (j2 + 1) rfl ?_; (case cl => exact fun _ => ⟨w13.heap.size, 0, rfl, Nat.lt_succ_self _, fun qq v hv => by rw [Nat.zero_add]; exact (new_cell w13 _ _ _ qq).trans (by rw [← hv]; simp [dc])⟩); intro A3 c3 w15 ho3 hb3 hg3 hA3; have HFN := Lib.hid (H14.out.appI (ys := xs ++ [(sx, v)]) (by rw [List.flatMap_append]; simpa using ho3) (show _ = j2 + 1 by rw [List.length_append, HXL.out]; rfl) hg3); have HB5 := Lib.hid (H14.out.blkI hg3); clear ho3 hb3 hg3 hA3; have z0 := HB5.out.frozen 11; have cc0 := HB5.out.cell 11; simp [pv, pvk] at cc0; rw [HXL.out] at cc0))
              clear z0 cc0 c11 hi0 hz0 hz1 hz2
              have HF2 := Lib.hid (IJ.next HXL.out HXS.out.1 HXS.out.2 HSX.out.1 HSX.out.2.symm HV.out HFN.out)
              go_roundw
              case rel => exact ⟨j2 + 1, by go_num, HJK.out, HF2.out⟩
              case measure => simp [intOf]; have := HJK.out; omega
          · obtain rfl : j2 = k1 := by omega
            have HFIN := Lib.hid (HNX.out _ (IJ.done (A := A1) (na := na) (c := c1) (nc := nc) (H89.out.1 (by simp)).1 HKK.out.2.1 HKK.out.2.2.symm hNJ (Nat.le_refl _) (.inl rfl)))
            clear hNJ hjk hbi
            go_wp2_with fail
            go_roundw
            case rel => exact ⟨j + 1, by go_num, by omega, by have := HJN.out; omega, HFIN.out⟩
            case measure => simp [intOf]; have := HJN.out; omega
      · as_aux_lemma =>
        have hg2 : (str S)[j] = (76 : UInt8) := hg
        clear hg
        go_wp2_with fail
        refine (dnumber_any wr q (q + 1) 1 _ HD.out.2.2.1 (by decide)).mono ?_
        rintro e w9 ⟨hf, v, rfl, hv, hr⟩
        obtain ⟨k1, hk1, hk2, hk3⟩ := getD_small (o := oo) (n := 1) (Nat.le_refl _)
        rw [hk1] at hv
        subst hv
        have H9 := Lib.hid (HD.out.rd hf hr)
        obtain ⟨o9, ho9⟩ : ∃ o9, (oo.bind (rnum 1)).map (·.2) = o9 := ⟨_, rfl⟩
        rw [ho9] at H9
        have HKK := Lib.hid (And.intro hk2 (And.intro hk3 ho9))
        have hmm : ({ m with nodes := [] } : Msg) = m := by have := (H89.out.2 (by simp)).1; cases m; dsimp only at this; subst this; rfl
        have HI0 := Lib.hid (show NJ w q mb m A1 c1 o9 0 w9 from ⟨[], na, nc, rfl, by rw [hmm, show (o9.bind (rnodes 0)).map (·.2) = o9 from by cases o9 <;> rfl]; exact H9.out, fun x hx => by cases o9 with | none => cases hx | some l => injection hx with hx; rw [← hx]⟩)
        have h10 : (0 : Int) ≤ (k1 : Int) := by omega
        have h11 : (k1 : Int) ≤ 255 := by omega
        clear hf hr hk1 hk2 hk3 ho9 hmm
        go_wp2_with fail
        go_loopw [13] (fun i wr => ∃ j2 : Nat, i = .int .i64 (j2 : Int) ∧ j2 ≤ k1 ∧ NJ w q mb m A1 c1 o9 j2 wr) (fun i _ => k1 - (intOf i).toNat)
        case atStart => exact ⟨0, rfl, Nat.zero_le _, HI0.out⟩
        case round =>
          obtain ⟨j2, rfl, hj2, hNJ⟩ := hrel
          by_cases hjk : j2 < k1
          · have g1 : (j2 : Int) < (k1 : Int) := by omega
            have g0 : (0 : Int) ≤ (j2 : Int) := by omega
            have HNJ := Lib.hid hNJ
            obtain ⟨xs, na2, nc2, hxl, hDS, hxs⟩ := hNJ
            obtain ⟨o2, ho2⟩ : ∃ o2, (o9.bind (rnodes j2)).map (·.2) = o2 := ⟨_, rfl⟩
            rw [ho2] at hDS
            have HDS := Lib.hid hDS
            have HXL := Lib.hid hxl
            have HXS := Lib.hid (And.intro ho2 hxs)
            have HJK := Lib.hid hjk
            obtain ⟨_, A', n', d', hB', _⟩ := hDS.2.2.1
            have b1 := hB'.cell 1
            simp at b1
            clear hB' hxs hDS
            rcases o2 with _ | l
            · have HFIN := Lib.hid (HNX.out _ (NJ.done (A := A1) (na := na) (c := c1) (nc := nc) (H89.out.2 (by simp)).1 HKK.out.2.1 HKK.out.2.2.symm HNJ.out hj2 (.inr (by rw [Option.map_eq_none_iff] at ho2; exact ho2))))
              simp only [Option.isNone_none] at b1
              clear ho2 hxl
              go_wp2_with fail
              go_roundw
              case rel => exact ⟨j + 1, by go_num, by omega, by have := HJN.out; omega, HFIN.out⟩
              case measure => simp [intOf]; have := HJN.out; omega
            · have HC12 := Lib.hid (show wr.cell? ⟨mb, 12, none⟩ = some (Value.slice na2 j2 nc2) from by have := HDS.out.2.1.cell 12; simp [pv, pvk] at this; rw [HXL.out] at this; exact this)
              simp only [Option.isNone_some] at b1
              clear ho2 hxl
              go_wp2_with fail
              refine wp_region_noPanic ?_
              refine wp_heldG (fun V => V.cell? ⟨mb, 12, none⟩ = some (.slice na2 j2 nc2)) [7] (by kernel_rfl) ?hs0 ?rg0
              case hs0 =>
                exact HC12.out
              case rg0 =>
              intro hHeld
              refine puG 0 ⟨some 136, .fieldAddr 33 (.tmp 5) 12, 0, _, #[], none⟩ (v := ?_) ?_ (fun _ => by assumption) ?_
              rotate_left
              · intro w hSw
                try dsimp only at hSw
                go_simp
                try with_reducible rfl
              try simp only [Act.put, List.setIfInBounds_toArray, List.set_cons_zero, List.set_cons_succ]
              refine tkG 1 ⟨some 137, .load 24 (.tmp 136), 24, _, #[⟨0, .data⟩], none⟩ (v := ?_) ?_ (by assumption) ?_
              rotate_left
              · intro w hSw
                try dsimp only at hSw
                go_simp
                try with_reducible rfl
              try simp only [Act.put, List.setIfInBounds_toArray, List.set_cons_zero, List.set_cons_succ]
              refine puG 2 ⟨some 138, .move (.tmp 4), 78, _, #[], none⟩ (v := ?_) ?_ (fun _ => by assumption) ?_
              rotate_left
              · intro w hSw
                try dsimp only at hSw
                go_simp
                try with_reducible rfl
              try simp only [Act.put, List.setIfInBounds_toArray, List.set_cons_zero, List.set_cons_succ]
              refine onG 3 ⟨some 139, .call { callee := Callee.value (Operand.func 38), args := #[.tmp 138, Operand.const (Value.int IntKind.i64 2)], argTypes := #[78, 2] }, 2, _, #[⟨2, .data⟩], none⟩ (fun K hK => ?_)
              go_simp
              refine (dnumber_any _ q (q + 1) 2 (some l) (HDS.out.2.2.1.keep (nextN (Mem.start _) 1)) (by decide)).mono ?_
              rintro e w4 ⟨hf, v, rfl, hv, hr⟩
              have H4n := Lib.hid ((HDS.out.keep (nextN (Mem.start _) 1)).rd hf hr)
              have HV := Lib.hid hv
              clear hv hr hf
              refine hK.out _ _ ?_ (fun hHeld => ?_)
              · intro _
                try dsimp only
                have := H4n.out.2.1.cell 12
                simp [pv, pvk] at this
                rw [HXL.out] at this
                exact this
              clear hK K
              try simp only [Act.put, List.setIfInBounds_toArray, List.set_cons_zero, List.set_cons_succ]
              have hHeld := hHeld (by kernel_rfl)
              refine onG 4 ⟨some 140, .buildSlice 24 1 #[(0, .tmp 139)], 24, _, #[⟨3, .data⟩], none⟩ (fun K hK => ?_)
              go_simp
              try dsimp only
              refine hK.out _ _ ?_ (fun hHeld => ?_)
              · intro _
                try dsimp only
                exact (Below.cell (nextA (Mem.start w4) _) (World.block_lt_of_cell? _ _ hHeld)).trans hHeld
              clear hK K
              try simp only [Act.put, List.setIfInBounds_toArray, List.set_cons_zero, List.set_cons_succ]
              have hHeld := hHeld (by kernel_rfl)
              refine onG 5 ⟨some 141, .call { callee := Callee.builtin Builtin.append, args := #[.tmp 137, .tmp 140], argTypes := #[24, 24] }, 24, _, #[⟨1, .data⟩, ⟨4, .data⟩, ⟨3, .chain⟩], none⟩ (fun K hK => ?_)
              obtain ⟨i0, hi0, hz0, hz1, hz2⟩ := info_parts iinfo9
              have H4k := Lib.hid (H4n.out.keep (nextA (Mem.start w4) (.cells #[.int .i64 v] 3)))
              refine step_app (w4.alloc (.cells #[.int .i64 v] 3)) rfl (.tmp 137) (.tmp 140) 24 (by rfl) q 3 i0 _ 8 Tryd.underlying24 hi0 hz0 hz1 hz2 rfl na2 nc2 j2 (xs.map iv) (by rfl) (by rw [List.length_map]; exact HXL.out.symm) H4k.out.2.2.2.2.1 (w4.heap.size + 1) (some ⟨w4.heap.size, 0, none⟩) 1 1 [.int .i64 v] (by rfl) (by rfl) (cells_one w4 _ _ _ (Nat.lt_succ_self _)) (fun u hu => by simp at hu; subst hu; rfl) (by rw [List.length_map, HXL.out]; have := HKK.out.1; have := HJK.out; unfold maxLen; simp; omega) (by rw [List.length_map, HXL.out]; have := HKK.out.1; have := HJK.out; simp; omega) (Nat.le_of_lt H4k.out.1.lt) (j2 + 1) rfl ?_
              intro A3 c3 w5 ho3 hb3 hg3 hA3
              have HFN := Lib.hid (H4k.out.appN (ys := xs ++ [v]) (by rw [List.map_append]; exact ho3) (show _ = j2 + 1 by rw [List.length_append, HXL.out]; rfl) hg3)
              have HB5 := Lib.hid (H4k.out.blkN hg3)
              clear ho3 hb3 hg3 hA3 hi0 hz0 hz1 hz2
              try dsimp only
              refine hK.out _ _ ?_ (fun hHeld => ?_)
              · intro _
                try dsimp only
                have := HB5.out.cell 12
                simp [pv, pvk] at this
                rw [HXL.out] at this
                exact this
              clear hK K
              try simp only [Act.put, List.setIfInBounds_toArray, List.set_cons_zero, List.set_cons_succ]
              have hHeld := hHeld (by kernel_rfl)
              refine puG 6 ⟨some 142, .fieldAddr 33 (.tmp 5) 12, 0, _, #[⟨0, .phase⟩, ⟨1, .phase⟩, ⟨2, .phase⟩, ⟨3, .phase⟩, ⟨4, .phase⟩, ⟨5, .phase⟩], none⟩ (v := ?_) ?_ (fun _ => by assumption) ?_
              rotate_left
              · intro w hSw
                try dsimp only at hSw
                go_simp
                try with_reducible rfl
              try simp only [Act.put, List.setIfInBounds_toArray, List.set_cons_zero, List.set_cons_succ]
              refine onG 7 ⟨none, .store 24 (.tmp 142) (.tmp 141), 0, _, #[⟨6, .data⟩, ⟨5, .data⟩, ⟨5, .chain⟩, ⟨0, .phase⟩, ⟨1, .phase⟩, ⟨2, .phase⟩, ⟨3, .phase⟩, ⟨4, .phase⟩, ⟨5, .phase⟩], none⟩ (fun K hK => ?_)
              have z0 := HB5.out.frozen 12
              have cc0 := HB5.out.cell 12
              simp [pv, pvk] at cc0
              rw [HXL.out] at cc0
              go_simp
              try dsimp only
              clear z0 cc0
              refine hK.out _ _ ?_ (fun hHeld => ?_)
              · exact fun h => (st_no (by kernel_rfl) h).elim
              clear hK K
              try simp only [Act.put, List.setIfInBounds_toArray, List.set_cons_zero, List.set_cons_succ]
              clear hHeld
              refine wpAnyG_done (by kernel_rfl) ?_ _
              refine NoPanic.normal ?_
              have HF2 := Lib.hid (NJ.next HXL.out HXS.out.1 HXS.out.2 HV.out HFN.out)
              go_wp2_with fail
              go_roundw
              case rel => exact ⟨j2 + 1, by go_num, HJK.out, HF2.out⟩
              case measure => simp [intOf]; have := HJK.out; omega
          · obtain rfl : j2 = k1 := by omega
            have HFIN := Lib.hid (HNX.out _ (NJ.done (A := A1) (na := na) (c := c1) (nc := nc) (H89.out.2 (by simp)).1 HKK.out.2.1 HKK.out.2.2.symm hNJ (Nat.le_refl _) (.inl rfl)))
            clear hNJ hjk
            go_wp2_with fail
            go_roundw
            case rel => exact ⟨j + 1, by go_num, by omega, by have := HJN.out; omega, HFIN.out⟩
            case measure => simp [intOf]; have := HJN.out; omega
      · as_aux_lemma =>
        have hg2 : (str S)[j] = (80 : UInt8) := hg
        clear hg
        go_wp2_with fail
        refine (dtext_any wr q (q + 1) 4 _ HD.out.2.2.1 (by decide)).mono ?_
        rintro e w9 ⟨hf, v, rfl, hv, hr⟩
        have H9 := Lib.hid (HD.out.rd hf hr)
        have c9 := H9.out.2.1.cell 13
        have z9 := H9.out.2.1.frozen 13
        simp [pv, pvk] at c9
        have HV := Lib.hid hv
        clear hf hr hv
        have HFIN := Lib.hid (HNX.out _ (FR.txt (n := 4) (v := v) (fun x => { m with data := x }) (fun l => rf10 m l) HV.out ⟨rfl, rfl, rfl⟩ (H9.out.put (m' := { m with data := v }) 13 (.string (str v)) rfl rfl rfl)))
        go_wp2_with fail
        go_roundw
        case rel => exact ⟨j + 1, by go_num, by omega, by have := HJN.out; omega, HFIN.out⟩
        case measure => simp [intOf]; have := HJN.out; omega
    · have hend := hasS_end (k := k) hj1 (by rw [HSS.out, HNN.out]; exact hjn)
      rw [hend] at hI
      obtain ⟨m, A1, c1, na, nc, hD, hx, hk, _, _⟩ := hI
      obtain ⟨R, hR⟩ : ∃ R, o3.bind (rfs (flds k) m0) = R := ⟨_, rfl⟩
      have hg := HG.out
      have hsz := HSZ.out
      rw [hR] at hg hD hx hsz
      have HD := Lib.hid hD
      have HGG := Lib.hid hg
      have HKM := Lib.hid (show m.kind < 256 by rw [hk, ← HM0.out]; exact HK.out.1)
      obtain ⟨_, A', n', c', hB', hl'⟩ := hD.2.2.1
      have b0 := hB'.cell 0
      have b1 := hB'.cell 1
      simp at b0 b1
      clear hR hg hend hD hB' hk
      rcases R with _ | ⟨m', l⟩
      · as_aux_lemma =>
        simp only [Option.map_none, Option.isNone_none] at b1
        clear hl' hx hsz
        go_wp2_with ((with_reducible show wpList _ _ _ ((⟨none, .store _ _ _, _, _, _, _⟩ : Oper) :: _) _ _); refine wpList_store_mid rfl 33 (.tmp 2) (.tmp 165) rfl q 0 (pvk mz none 0 0 none 0) rfl rfl (there_p HD.out.1) pinfo (pvk_one _ _ _ _ _ _) ?_)
        have hF : Fr (fun k => k = q) wr (wr.setCells q 0 (pvk mz none 0 0 none 0).toList) := fr_setCells (S := fun k => k = q) rfl _ _ _ (Fr.refl _ wr)
        have hB := set14p HD.out.1 mz none 0 0 none 0
        obtain ⟨w5, hw5⟩ : ∃ x, wr.setCells q 0 (pvk mz none 0 0 none 0).toList = x := ⟨_, rfl⟩
        rw [hw5] at hF hB ⊢
        have HB := Lib.hid (And.intro hB hF)
        clear hF hB hw5
        refine bodyPost_ret (ret_box _ w5 q mz none 0 0 none 0 false rfl rfl HB.out.1) rfl ?_
        have hbw : Below w.heap.size w w5 := by rw [HQ.out]; exact HD.out.2.2.2.2.2.1.trans (HB.out.2.below (Nat.le_of_lt HD.out.1.lt) fun k hk => by omega)
        refine ⟨hbw, ?_⟩
        rw [HGG.out]
        rfl
      · obtain rfl := hx _ rfl
        obtain ⟨rfl, _, _, _⟩ := hl' l rfl
        simp only [Option.map_some, Option.isNone_some] at b1
        have HS := Lib.hid (hsz _ rfl)
        clear hl' hx hsz
        by_cases hl : l.length = 0
        · have hl0 : ((0 : Nat) : Int) = 0 := rfl
          rw [hl] at b0
          have HL := Lib.hid hl
          clear hl
          have HP := Lib.hid (show PIn wr wr.heap.size m A1 na by
            obtain ⟨z1, z2, z3, z4⟩ := HS.out
            dsimp only at z1 z2 z3 z4
            exact ⟨HD.out.2.2.2.1.cells, HD.out.2.2.2.2.1.cells, HKM.out, by omega, by omega, by omega, by omega, fun x hx => by have := z4 x hx; omega⟩)
          cases hm : may m with
          | false =>
            as_aux_lemma =>
            have HGG := Lib.hid (show Wi.get b = none by rw [HGG.out, Option.bind_some, hm, if_neg (by simp)])
            have HMM := Lib.hid hm
            clear hm
            go_wp2_with ((with_reducible show wpList _ _ _ ((⟨some 161, _, _, _, _, _⟩ : Oper) :: _) _ _); refine wpList_load_on (by rfl) 33 (.tmp 5) rfl (.pointer (some ⟨mb, 0, none⟩)) (.agg (pv m A1 c1 na nc)) (by rfl) (load_pv HD.out.2.1) ?_)
            refine (rmay_any wr m A1 c1 na nc HP.out).mono ?_
            rintro e w3 ⟨rfl, hb3⟩
            rw [HMM.out]
            have HD3 := Lib.hid (HD.out.keep hb3)
            clear hb3 b0 b1
            go_wp2_with ((with_reducible show wpList _ _ _ ((⟨none, .store _ _ _, _, _, _, _⟩ : Oper) :: _) _ _); refine wpList_store_mid rfl 33 (.tmp 2) (.tmp 165) rfl q 0 (pvk mz none 0 0 none 0) rfl rfl (there_p HD3.out.1) pinfo (pvk_one _ _ _ _ _ _) ?_)
            have hF : Fr (fun k => k = q) w3 (w3.setCells q 0 (pvk mz none 0 0 none 0).toList) := fr_setCells (S := fun k => k = q) rfl _ _ _ (Fr.refl _ w3)
            have hB := set14p HD3.out.1 mz none 0 0 none 0
            obtain ⟨w5, hw5⟩ : ∃ x, w3.setCells q 0 (pvk mz none 0 0 none 0).toList = x := ⟨_, rfl⟩
            rw [hw5] at hF hB ⊢
            have HB := Lib.hid (And.intro hB hF)
            clear hF hB hw5
            refine bodyPost_ret (ret_box _ w5 q mz none 0 0 none 0 false rfl rfl HB.out.1) rfl ?_
            have hbw : Below w.heap.size w w5 := by rw [HQ.out]; exact HD3.out.2.2.2.2.2.1.trans (HB.out.2.below (Nat.le_of_lt HD3.out.1.lt) fun k hk => by omega)
            refine ⟨hbw, ?_⟩
            rw [HGG.out]
            rfl
          | true =>
            as_aux_lemma =>
            have HGG := Lib.hid (show Wi.get b = some m by rw [HGG.out, Option.bind_some, if_pos ⟨HL.out, hm⟩])
            have HMM := Lib.hid hm
            clear hm
            go_wp2_with ((with_reducible show wpList _ _ _ ((⟨some 161, _, _, _, _, _⟩ : Oper) :: _) _ _); refine wpList_load_on (by rfl) 33 (.tmp 5) rfl (.pointer (some ⟨mb, 0, none⟩)) (.agg (pv m A1 c1 na nc)) (by rfl) (load_pv HD.out.2.1) ?_)
            refine (rmay_any wr m A1 c1 na nc HP.out).mono ?_
            rintro e w3 ⟨rfl, hb3⟩
            rw [HMM.out]
            have HD3 := Lib.hid (HD.out.keep hb3)
            clear hb3 b0 b1
            go_wp2_with ((with_reducible show wpList _ _ _ ((⟨some 166, _, _, _, _, _⟩ : Oper) :: _) _ _); refine wpList_load_mid rfl 33 (.tmp 5) rfl mb 0 rfl (pvk m A1 m.ids.length c1 na nc).toList _ (range_of HD3.out.2.1) Tryd.underlying33 rfl pinfo ?_; refine wpList_store_mid rfl 33 (.tmp 2) (.tmp 166) rfl q 0 (pvk m A1 m.ids.length c1 na nc) rfl rfl (there_p HD3.out.1) pinfo (pvk_one _ _ _ _ _ _) ?_)
            have hF : Fr (fun k => k = q) w3 (w3.setCells q 0 (pvk m A1 m.ids.length c1 na nc).toList) := fr_setCells (S := fun k => k = q) rfl _ _ _ (Fr.refl _ w3)
            have hB := set14p HD3.out.1 m A1 m.ids.length c1 na nc
            obtain ⟨w5, hw5⟩ : ∃ x, w3.setCells q 0 (pvk m A1 m.ids.length c1 na nc).toList = x := ⟨_, rfl⟩
            rw [hw5] at hF hB ⊢
            have HB := Lib.hid (And.intro hB hF)
            clear hF hB hw5
            refine bodyPost_ret (ret_box _ w5 q m A1 m.ids.length c1 na nc true rfl rfl HB.out.1) rfl ?_
            have hbw : Below w.heap.size w w5 := by rw [HQ.out]; exact HD3.out.2.2.2.2.2.1.trans (HB.out.2.below (Nat.le_of_lt HD3.out.1.lt) fun k hk => by omega)
            refine ⟨hbw, ?_⟩
            have hne1 : ∀ g, A1 = some ⟨g, 0, none⟩ → g ≠ q := fun g e h => by subst e; exact blk_ne_ownK HD3.out.1 HD3.out.2.2.2.1 (by decide) (by rw [h])
            have hne2 : ∀ g, na = some ⟨g, 0, none⟩ → g ≠ q := fun g e h => HD3.out.1.ne_own HD3.out.2.2.2.2.1 (by decide) g e h
            rw [HGG.out]
            refine ⟨A1, c1, na, nc, rfl, (HD3.out.2.2.2.1.fr HB.out.2 hne1).cells, (HD3.out.2.2.2.2.1.fr HB.out.2 hne2).cells, HP.out.kind, HP.out.lk, HP.out.li, HP.out.ln, HP.out.ld, HP.out.lik⟩
        · as_aux_lemma =>
          have HGG := Lib.hid (show Wi.get b = none by rw [HGG.out, Option.bind_some, if_neg (fun h => hl h.1)])
          have hl0 : 0 < l.length := by omega
          have hl1 : (0 : Int) < (l.length : Int) := by omega
          clear hl
          go_wp2_with ((with_reducible show wpList _ _ _ ((⟨none, .store _ _ _, _, _, _, _⟩ : Oper) :: _) _ _); refine wpList_store_mid rfl 33 (.tmp 2) (.tmp 165) rfl q 0 (pvk mz none 0 0 none 0) rfl rfl (there_p HD.out.1) pinfo (pvk_one _ _ _ _ _ _) ?_)
          have hF : Fr (fun k => k = q) wr (wr.setCells q 0 (pvk mz none 0 0 none 0).toList) := fr_setCells (S := fun k => k = q) rfl _ _ _ (Fr.refl _ wr)
          have hB := set14p HD.out.1 mz none 0 0 none 0
          obtain ⟨w5, hw5⟩ : ∃ x, wr.setCells q 0 (pvk mz none 0 0 none 0).toList = x := ⟨_, rfl⟩
          rw [hw5] at hF hB ⊢
          have HB := Lib.hid (And.intro hB hF)
          clear hF hB hw5
          refine bodyPost_ret (ret_box _ w5 q mz none 0 0 none 0 false rfl rfl HB.out.1) rfl ?_
          have hbw : Below w.heap.size w w5 := by rw [HQ.out]; exact HD.out.2.2.2.2.2.1.trans (HB.out.2.below (Nat.le_of_lt HD.out.1.lt) fun k hk => by omega)
          refine ⟨hbw, ?_⟩
          rw [HGG.out]
          rfl
end Go.Proofs.YtebdmfmadbikaaaDoor.WiW
