/- Package wire's get, a field at a time (those of one cell). Printed by genwget.py. -/
import Derived.Test.YtebdmfmadbikaaaDoorWrRd
namespace Go.Proofs.YtebdmfmadbikaaaDoor.WiW
open Go.RowKit Go.Shelf Mem Fds FdW Wi Rng
set_option linter.unusedVariables false
set_option linter.unusedSimpArgs false

/-- What get leaves of a field of one cell: the message at q, the reader at p. -/
def GetS (w : World) (B p q : Nat) (s : Sl) (o : Option (Msg × List UInt8)) (e : Ending) (w' : World) : Prop :=
  Fr (fun k => k = p ∨ k = q) w w' ∧ match o with
    | some x => e = .returned (.tuple #[]) ∧ Rd w' B p x.2 ∧ Blk w' q 27 (mv x.1 s)
    | none => e = .panicked thrown ∧ ∃ m' s', Blk w' q 27 (mv m' s')
set_option maxRecDepth 100000 in
set_option maxHeartbeats 4000000 in
theorem get0_any (w : World) (B p q : Nat) (m : Msg) (s : Sl) (l : List UInt8) (h : Rd w B p l) (hB : Blk w q 27 (mv m s)) (hq : B ≤ q ∧ q ≠ p) :
    Calls Tryd.prog 36 #[.pointer (some ⟨p, 0, none⟩), .int .u16 (bit 0), .pointer (some ⟨q, 0, none⟩)] w (GetS w B p q s (rf m l 0)) := by
  rw [show bit 0 = 1 from rfl]
  have HQ := Lib.hid (And.intro hq hB)
  clear hq hB
  cases h1 : rnum 8 l with
  | none =>
    have hr : rf m l 0 = none := by simp only [rf, h1]; rfl
    rw [hr]
    have H1 := Lib.hid h1
    clear h1
    go_enter Tryd.func36, Tryd.ntmps36
    go_wp2_with fail
    refine (number_any w B p 8 l h (by decide)).mono ?_
    rintro e w1 he
    rw [H1.out] at he
    obtain ⟨hf, rfl⟩ := he
    have HF := Lib.hid hf
    clear hf
    go_wp2_with fail
    exact ⟨rfl, HF.out.mono fun k _ h => .inl h, rfl, _, _, HQ.out.2.fr HF.out HQ.out.1.2⟩
  | some x =>
    obtain ⟨n, r⟩ := x
    have hr : rf m l 0 = some ({ m with req := sgn n }, r) := by simp only [rf, h1]; rfl
    rw [hr]
    have H1 := Lib.hid h1
    clear h1
    go_enter Tryd.func36, Tryd.ntmps36
    go_wp2_with fail
    refine (number_any w B p 8 l h (by decide)).mono ?_
    rintro e w1 he
    rw [H1.out] at he
    obtain ⟨hf, rfl, hrd⟩ := he
    dsimp only [Option.map_some] at hrd ⊢
    have hB1 := HQ.out.2.fr hf HQ.out.1.2
    have c0 := hB1.cell 3
    have z0 := hB1.frozen 3
    simp [mv] at c0
    have HB := Lib.hid (And.intro hB1 (And.intro hrd hf))
    clear hB1 hrd hf h
    go_wp2_with fail
    go_end0
    have hf2 : Fr (fun k => k = q) w1 (w1.setCell ⟨q, 3, none⟩ (.int .i64 (sgn n))) := Fr.setCell (S := fun k => k = q) (w' := w1) (Fr.refl _ w1) (p := ⟨q, 3, none⟩) (fun _ => rfl) _
    refine ⟨(HB.out.2.2.mono fun k _ h => .inl h).trans hf2 (fun _ _ h => .inr h), rfl, HB.out.2.1.fr hf2 (fun k hk => by have := HQ.out.1.1; omega) (fun h => HQ.out.1.2 h.symm), ?_⟩
    have := HB.out.1.set_ 3 (.int .i64 (sgn n))
    simpa [mv] using this
set_option maxRecDepth 100000 in
set_option maxHeartbeats 4000000 in
theorem get1_any (w : World) (B p q : Nat) (m : Msg) (s : Sl) (l : List UInt8) (h : Rd w B p l) (hB : Blk w q 27 (mv m s)) (hq : B ≤ q ∧ q ≠ p) :
    Calls Tryd.prog 36 #[.pointer (some ⟨p, 0, none⟩), .int .u16 (bit 1), .pointer (some ⟨q, 0, none⟩)] w (GetS w B p q s (rf m l 1)) := by
  rw [show bit 1 = 2 from rfl]
  have HQ := Lib.hid (And.intro hq hB)
  clear hq hB
  cases h1 : rtxt l with
  | none =>
    have hr : rf m l 1 = none := by simp only [rf, h1]; rfl
    rw [hr]
    have H1 := Lib.hid h1
    clear h1
    go_enter Tryd.func36, Tryd.ntmps36
    go_wp2_with fail
    refine (rtext_any w B p l h).mono ?_
    rintro e w1 he
    rw [H1.out] at he
    obtain ⟨hf, rfl⟩ := he
    have HF := Lib.hid hf
    clear hf
    go_wp2_with fail
    exact ⟨rfl, HF.out.mono fun k _ h => .inl h, rfl, _, _, HQ.out.2.fr HF.out HQ.out.1.2⟩
  | some x =>
    obtain ⟨v, r⟩ := x
    have hr : rf m l 1 = some ({ m with key := v }, r) := by simp only [rf, h1]; rfl
    rw [hr]
    have H1 := Lib.hid h1
    clear h1
    go_enter Tryd.func36, Tryd.ntmps36
    go_wp2_with fail
    refine (rtext_any w B p l h).mono ?_
    rintro e w1 he
    rw [H1.out] at he
    obtain ⟨hf, rfl, hrd⟩ := he
    dsimp only [Option.map_some] at hrd ⊢
    have hB1 := HQ.out.2.fr hf HQ.out.1.2
    have c0 := hB1.cell 4
    have z0 := hB1.frozen 4
    simp [mv] at c0
    have HB := Lib.hid (And.intro hB1 (And.intro hrd hf))
    clear hB1 hrd hf h
    go_wp2_with fail
    go_end0
    have hf2 : Fr (fun k => k = q) w1 (w1.setCell ⟨q, 4, none⟩ (.string (str v))) := Fr.setCell (S := fun k => k = q) (w' := w1) (Fr.refl _ w1) (p := ⟨q, 4, none⟩) (fun _ => rfl) _
    refine ⟨(HB.out.2.2.mono fun k _ h => .inl h).trans hf2 (fun _ _ h => .inr h), rfl, HB.out.2.1.fr hf2 (fun k hk => by have := HQ.out.1.1; omega) (fun h => HQ.out.1.2 h.symm), ?_⟩
    have := HB.out.1.set_ 4 (.string (str v))
    simpa [mv] using this
set_option maxRecDepth 100000 in
set_option maxHeartbeats 4000000 in
theorem get2_any (w : World) (B p q : Nat) (m : Msg) (s : Sl) (l : List UInt8) (h : Rd w B p l) (hB : Blk w q 27 (mv m s)) (hq : B ≤ q ∧ q ≠ p) :
    Calls Tryd.prog 36 #[.pointer (some ⟨p, 0, none⟩), .int .u16 (bit 2), .pointer (some ⟨q, 0, none⟩)] w (GetS w B p q s (rf m l 2)) := by
  rw [show bit 2 = 4 from rfl]
  have HQ := Lib.hid (And.intro hq hB)
  clear hq hB
  cases h1 : rnum 8 l with
  | none =>
    have hr : rf m l 2 = none := by simp only [rf, h1]; rfl
    rw [hr]
    have H1 := Lib.hid h1
    clear h1
    go_enter Tryd.func36, Tryd.ntmps36
    go_wp2_with fail
    refine (number_any w B p 8 l h (by decide)).mono ?_
    rintro e w1 he
    rw [H1.out] at he
    obtain ⟨hf, rfl⟩ := he
    have HF := Lib.hid hf
    clear hf
    go_wp2_with fail
    exact ⟨rfl, HF.out.mono fun k _ h => .inl h, rfl, _, _, HQ.out.2.fr HF.out HQ.out.1.2⟩
  | some x =>
    obtain ⟨n, r⟩ := x
    have hr : rf m l 2 = some ({ m with ver := sgn n }, r) := by simp only [rf, h1]; rfl
    rw [hr]
    have H1 := Lib.hid h1
    clear h1
    go_enter Tryd.func36, Tryd.ntmps36
    go_wp2_with fail
    refine (number_any w B p 8 l h (by decide)).mono ?_
    rintro e w1 he
    rw [H1.out] at he
    obtain ⟨hf, rfl, hrd⟩ := he
    dsimp only [Option.map_some] at hrd ⊢
    have hB1 := HQ.out.2.fr hf HQ.out.1.2
    have c0 := hB1.cell 5
    have z0 := hB1.frozen 5
    simp [mv] at c0
    have HB := Lib.hid (And.intro hB1 (And.intro hrd hf))
    clear hB1 hrd hf h
    go_wp2_with fail
    go_end0
    have hf2 : Fr (fun k => k = q) w1 (w1.setCell ⟨q, 5, none⟩ (.int .i64 (sgn n))) := Fr.setCell (S := fun k => k = q) (w' := w1) (Fr.refl _ w1) (p := ⟨q, 5, none⟩) (fun _ => rfl) _
    refine ⟨(HB.out.2.2.mono fun k _ h => .inl h).trans hf2 (fun _ _ h => .inr h), rfl, HB.out.2.1.fr hf2 (fun k hk => by have := HQ.out.1.1; omega) (fun h => HQ.out.1.2 h.symm), ?_⟩
    have := HB.out.1.set_ 5 (.int .i64 (sgn n))
    simpa [mv] using this
set_option maxRecDepth 100000 in
set_option maxHeartbeats 4000000 in
theorem get3_any (w : World) (B p q : Nat) (m : Msg) (s : Sl) (l : List UInt8) (h : Rd w B p l) (hB : Blk w q 27 (mv m s)) (hq : B ≤ q ∧ q ≠ p) :
    Calls Tryd.prog 36 #[.pointer (some ⟨p, 0, none⟩), .int .u16 (bit 3), .pointer (some ⟨q, 0, none⟩)] w (GetS w B p q s (rf m l 3)) := by
  rw [show bit 3 = 8 from rfl]
  have HQ := Lib.hid (And.intro hq hB)
  clear hq hB
  cases h1 : rnum 8 l with
  | none =>
    have hr : rf m l 3 = none := by simp only [rf, h1]; rfl
    rw [hr]
    have H1 := Lib.hid h1
    clear h1
    go_enter Tryd.func36, Tryd.ntmps36
    go_wp2_with fail
    refine (number_any w B p 8 l h (by decide)).mono ?_
    rintro e w1 he
    rw [H1.out] at he
    obtain ⟨hf, rfl⟩ := he
    have HF := Lib.hid hf
    clear hf
    go_wp2_with fail
    exact ⟨rfl, HF.out.mono fun k _ h => .inl h, rfl, _, _, HQ.out.2.fr HF.out HQ.out.1.2⟩
  | some x =>
    obtain ⟨n, r⟩ := x
    have hr : rf m l 3 = some ({ m with inc := sgn n }, r) := by simp only [rf, h1]; rfl
    rw [hr]
    have H1 := Lib.hid h1
    clear h1
    go_enter Tryd.func36, Tryd.ntmps36
    go_wp2_with fail
    refine (number_any w B p 8 l h (by decide)).mono ?_
    rintro e w1 he
    rw [H1.out] at he
    obtain ⟨hf, rfl, hrd⟩ := he
    dsimp only [Option.map_some] at hrd ⊢
    have hB1 := HQ.out.2.fr hf HQ.out.1.2
    have c0 := hB1.cell 6
    have z0 := hB1.frozen 6
    simp [mv] at c0
    have HB := Lib.hid (And.intro hB1 (And.intro hrd hf))
    clear hB1 hrd hf h
    go_wp2_with fail
    go_end0
    have hf2 : Fr (fun k => k = q) w1 (w1.setCell ⟨q, 6, none⟩ (.int .i64 (sgn n))) := Fr.setCell (S := fun k => k = q) (w' := w1) (Fr.refl _ w1) (p := ⟨q, 6, none⟩) (fun _ => rfl) _
    refine ⟨(HB.out.2.2.mono fun k _ h => .inl h).trans hf2 (fun _ _ h => .inr h), rfl, HB.out.2.1.fr hf2 (fun k hk => by have := HQ.out.1.1; omega) (fun h => HQ.out.1.2 h.symm), ?_⟩
    have := HB.out.1.set_ 6 (.int .i64 (sgn n))
    simpa [mv] using this
set_option maxRecDepth 100000 in
set_option maxHeartbeats 4000000 in
theorem get4_any (w : World) (B p q : Nat) (m : Msg) (s : Sl) (l : List UInt8) (h : Rd w B p l) (hB : Blk w q 27 (mv m s)) (hq : B ≤ q ∧ q ≠ p) :
    Calls Tryd.prog 36 #[.pointer (some ⟨p, 0, none⟩), .int .u16 (bit 4), .pointer (some ⟨q, 0, none⟩)] w (GetS w B p q s (rf m l 4)) := by
  rw [show bit 4 = 16 from rfl]
  have HQ := Lib.hid (And.intro hq hB)
  clear hq hB
  cases h1 : rnum 4 l with
  | none =>
    have hr : rf m l 4 = none := by simp only [rf, h1]; rfl
    rw [hr]
    have H1 := Lib.hid h1
    clear h1
    go_enter Tryd.func36, Tryd.ntmps36
    go_wp2_with fail
    refine (number_any w B p 4 l h (by decide)).mono ?_
    rintro e w1 he
    rw [H1.out] at he
    obtain ⟨hf, rfl⟩ := he
    have HF := Lib.hid hf
    clear hf
    go_wp2_with fail
    exact ⟨rfl, HF.out.mono fun k _ h => .inl h, rfl, _, _, HQ.out.2.fr HF.out HQ.out.1.2⟩
  | some x =>
    obtain ⟨n, r⟩ := x
    have hr : rf m l 4 = some ({ m with size := (n : Int) }, r) := by simp only [rf, h1]; rfl
    rw [hr]
    have hn := (rnum_some h1).1
    dsimp only at hn
    have HSG := Lib.hid (show sgn n = (n : Int) from sgn_small (by omega))
    clear hn
    have H1 := Lib.hid h1
    clear h1
    go_enter Tryd.func36, Tryd.ntmps36
    go_wp2_with fail
    refine (number_any w B p 4 l h (by decide)).mono ?_
    rintro e w1 he
    rw [H1.out] at he
    obtain ⟨hf, rfl, hrd⟩ := he
    dsimp only [Option.map_some] at hrd ⊢
    rw [HSG.out]
    have hB1 := HQ.out.2.fr hf HQ.out.1.2
    have c0 := hB1.cell 7
    have z0 := hB1.frozen 7
    simp [mv] at c0
    have HB := Lib.hid (And.intro hB1 (And.intro hrd hf))
    clear hB1 hrd hf h
    go_wp2_with fail
    go_end0
    have hf2 : Fr (fun k => k = q) w1 (w1.setCell ⟨q, 7, none⟩ (.int .i64 (n : Int))) := Fr.setCell (S := fun k => k = q) (w' := w1) (Fr.refl _ w1) (p := ⟨q, 7, none⟩) (fun _ => rfl) _
    refine ⟨(HB.out.2.2.mono fun k _ h => .inl h).trans hf2 (fun _ _ h => .inr h), rfl, HB.out.2.1.fr hf2 (fun k hk => by have := HQ.out.1.1; omega) (fun h => HQ.out.1.2 h.symm), ?_⟩
    have := HB.out.1.set_ 7 (.int .i64 (n : Int))
    simpa [mv] using this
set_option maxRecDepth 100000 in
set_option maxHeartbeats 4000000 in
theorem get5_any (w : World) (B p q : Nat) (m : Msg) (s : Sl) (l : List UInt8) (h : Rd w B p l) (hB : Blk w q 27 (mv m s)) (hq : B ≤ q ∧ q ≠ p) :
    Calls Tryd.prog 36 #[.pointer (some ⟨p, 0, none⟩), .int .u16 (bit 5), .pointer (some ⟨q, 0, none⟩)] w (GetS w B p q s (rf m l 5)) := by
  rw [show bit 5 = 32 from rfl]
  have HQ := Lib.hid (And.intro hq hB)
  clear hq hB
  cases h1 : rnum 2 l with
  | none =>
    have hr : rf m l 5 = none := by simp only [rf, h1]; rfl
    rw [hr]
    have H1 := Lib.hid h1
    clear h1
    go_enter Tryd.func36, Tryd.ntmps36
    go_wp2_with fail
    refine (number_any w B p 2 l h (by decide)).mono ?_
    rintro e w1 he
    rw [H1.out] at he
    obtain ⟨hf, rfl⟩ := he
    have HF := Lib.hid hf
    clear hf
    go_wp2_with fail
    exact ⟨rfl, HF.out.mono fun k _ h => .inl h, rfl, _, _, HQ.out.2.fr HF.out HQ.out.1.2⟩
  | some x =>
    obtain ⟨n, r⟩ := x
    have hr : rf m l 5 = some ({ m with code := (n : Int) }, r) := by simp only [rf, h1]; rfl
    rw [hr]
    have hn := (rnum_some h1).1
    dsimp only at hn
    have HSG := Lib.hid (show sgn n = (n : Int) from sgn_small (by omega))
    clear hn
    have H1 := Lib.hid h1
    clear h1
    go_enter Tryd.func36, Tryd.ntmps36
    go_wp2_with fail
    refine (number_any w B p 2 l h (by decide)).mono ?_
    rintro e w1 he
    rw [H1.out] at he
    obtain ⟨hf, rfl, hrd⟩ := he
    dsimp only [Option.map_some] at hrd ⊢
    rw [HSG.out]
    have hB1 := HQ.out.2.fr hf HQ.out.1.2
    have c0 := hB1.cell 8
    have z0 := hB1.frozen 8
    simp [mv] at c0
    have HB := Lib.hid (And.intro hB1 (And.intro hrd hf))
    clear hB1 hrd hf h
    go_wp2_with fail
    go_end0
    have hf2 : Fr (fun k => k = q) w1 (w1.setCell ⟨q, 8, none⟩ (.int .i64 (n : Int))) := Fr.setCell (S := fun k => k = q) (w' := w1) (Fr.refl _ w1) (p := ⟨q, 8, none⟩) (fun _ => rfl) _
    refine ⟨(HB.out.2.2.mono fun k _ h => .inl h).trans hf2 (fun _ _ h => .inr h), rfl, HB.out.2.1.fr hf2 (fun k hk => by have := HQ.out.1.1; omega) (fun h => HQ.out.1.2 h.symm), ?_⟩
    have := HB.out.1.set_ 8 (.int .i64 (n : Int))
    simpa [mv] using this
set_option maxRecDepth 100000 in
set_option maxHeartbeats 4000000 in
theorem get6_any (w : World) (B p q : Nat) (m : Msg) (s : Sl) (l : List UInt8) (h : Rd w B p l) (hB : Blk w q 27 (mv m s)) (hq : B ≤ q ∧ q ≠ p) :
    Calls Tryd.prog 36 #[.pointer (some ⟨p, 0, none⟩), .int .u16 (bit 6), .pointer (some ⟨q, 0, none⟩)] w (GetS w B p q s (rf m l 6)) := by
  rw [show bit 6 = 64 from rfl]
  have HQ := Lib.hid (And.intro hq hB)
  clear hq hB
  cases h1 : rnum 2 l with
  | none =>
    have hr : rf m l 6 = none := by simp only [rf, h1]; rfl
    rw [hr]
    have H1 := Lib.hid h1
    clear h1
    go_enter Tryd.func36, Tryd.ntmps36
    go_wp2_with fail
    refine (number_any w B p 2 l h (by decide)).mono ?_
    rintro e w1 he
    rw [H1.out] at he
    obtain ⟨hf, rfl⟩ := he
    have HF := Lib.hid hf
    clear hf
    go_wp2_with fail
    exact ⟨rfl, HF.out.mono fun k _ h => .inl h, rfl, _, _, HQ.out.2.fr HF.out HQ.out.1.2⟩
  | some x =>
    obtain ⟨n, r⟩ := x
    have hr : rf m l 6 = some ({ m with node := (n : Int) }, r) := by simp only [rf, h1]; rfl
    rw [hr]
    have hn := (rnum_some h1).1
    dsimp only at hn
    have HSG := Lib.hid (show sgn n = (n : Int) from sgn_small (by omega))
    clear hn
    have H1 := Lib.hid h1
    clear h1
    go_enter Tryd.func36, Tryd.ntmps36
    go_wp2_with fail
    refine (number_any w B p 2 l h (by decide)).mono ?_
    rintro e w1 he
    rw [H1.out] at he
    obtain ⟨hf, rfl, hrd⟩ := he
    dsimp only [Option.map_some] at hrd ⊢
    rw [HSG.out]
    have hB1 := HQ.out.2.fr hf HQ.out.1.2
    have c0 := hB1.cell 9
    have z0 := hB1.frozen 9
    simp [mv] at c0
    have HB := Lib.hid (And.intro hB1 (And.intro hrd hf))
    clear hB1 hrd hf h
    go_wp2_with fail
    go_end0
    have hf2 : Fr (fun k => k = q) w1 (w1.setCell ⟨q, 9, none⟩ (.int .i64 (n : Int))) := Fr.setCell (S := fun k => k = q) (w' := w1) (Fr.refl _ w1) (p := ⟨q, 9, none⟩) (fun _ => rfl) _
    refine ⟨(HB.out.2.2.mono fun k _ h => .inl h).trans hf2 (fun _ _ h => .inr h), rfl, HB.out.2.1.fr hf2 (fun k hk => by have := HQ.out.1.1; omega) (fun h => HQ.out.1.2 h.symm), ?_⟩
    have := HB.out.1.set_ 9 (.int .i64 (n : Int))
    simpa [mv] using this
set_option maxRecDepth 100000 in
set_option maxHeartbeats 4000000 in
theorem get7_any (w : World) (B p q : Nat) (m : Msg) (s : Sl) (l : List UInt8) (h : Rd w B p l) (hB : Blk w q 27 (mv m s)) (hq : B ≤ q ∧ q ≠ p) :
    Calls Tryd.prog 36 #[.pointer (some ⟨p, 0, none⟩), .int .u16 (bit 7), .pointer (some ⟨q, 0, none⟩)] w (GetS w B p q s (rf m l 7)) := by
  rw [show bit 7 = 128 from rfl]
  have HQ := Lib.hid (And.intro hq hB)
  clear hq hB
  have hrf : rf m l 7 = (rnum 1 l).bind fun p => if p.1 ≤ 1 then some ({ m with back := decide (p.1 = 1) }, p.2) else none := rfl
  rw [hrf]
  cases h1 : rnum 1 l with
  | none =>
    have H1 := Lib.hid h1
    clear h1 hrf
    go_enter Tryd.func36, Tryd.ntmps36
    go_wp2_with fail
    refine (number_any w B p 1 l h (by decide)).mono ?_
    rintro e w1 he
    rw [H1.out] at he
    obtain ⟨hf, rfl⟩ := he
    have HF := Lib.hid hf
    clear hf
    go_wp2_with fail
    exact ⟨rfl, HF.out.mono fun k _ h => .inl h, rfl, _, _, HQ.out.2.fr HF.out HQ.out.1.2⟩
  | some x =>
    obtain ⟨n, r⟩ := x
    have hn := (rnum_some h1).1
    dsimp only at hn
    have HSG := Lib.hid (show sgn n = (n : Int) from sgn_small (by omega))
    have H1 := Lib.hid h1
    clear h1 hrf hn
    by_cases hn1 : n ≤ 1
    · have d1 : decide ((n : Int) ≤ 1) = true := decide_eq_true (by omega)
      have HD := Lib.hid (show ((n : Int) == 1) = decide (n = 1) by rw [Bool.eq_iff_iff, beq_iff_eq, decide_eq_true_iff]; omega)
      have HN1 := Lib.hid hn1
      clear hn1
      go_enter Tryd.func36, Tryd.ntmps36
      go_wp2_with fail
      refine (number_any w B p 1 l h (by decide)).mono ?_
      rintro e w1 he
      rw [H1.out] at he
      obtain ⟨hf, rfl, hrd⟩ := he
      dsimp only [Option.map_some] at hrd ⊢
      rw [HSG.out]
      have hB1 := HQ.out.2.fr hf HQ.out.1.2
      have c0 := hB1.cell 10
      have z0 := hB1.frozen 10
      simp [mv] at c0
      have HB := Lib.hid (And.intro hB1 (And.intro hrd hf))
      clear hB1 hrd hf h
      go_wp2_with fail
      refine (want_ok _).mono ?_
      rintro e w2 ⟨rfl, rfl⟩
      have hd := HD.out
      go_wp2_with fail
      go_end0
      have hf2 : Fr (fun k => k = q) w1 (w1.setCell ⟨q, 10, none⟩ (.bool (decide (n = 1)))) := Fr.setCell (S := fun k => k = q) (w' := w1) (Fr.refl _ w1) (p := ⟨q, 10, none⟩) (fun _ => rfl) _
      rw [Option.bind_some]
      dsimp only
      rw [if_pos HN1.out]
      refine ⟨(HB.out.2.2.mono fun k _ h => .inl h).trans hf2 (fun _ _ h => .inr h), rfl, HB.out.2.1.fr hf2 (fun k hk => by have := HQ.out.1.1; omega) (fun h => HQ.out.1.2 h.symm), ?_⟩
      have := HB.out.1.set_ 10 (.bool (decide (n = 1)))
      simpa [mv] using this
    · have d1 : decide ((n : Int) ≤ 1) = false := decide_eq_false (by omega)
      have HN1 := Lib.hid hn1
      clear hn1
      go_enter Tryd.func36, Tryd.ntmps36
      go_wp2_with fail
      refine (number_any w B p 1 l h (by decide)).mono ?_
      rintro e w1 he
      rw [H1.out] at he
      obtain ⟨hf, rfl, hrd⟩ := he
      dsimp only [Option.map_some] at hrd ⊢
      rw [HSG.out]
      have HF := Lib.hid hf
      clear hf h hrd
      go_wp2_with fail
      refine (want_no _).mono ?_
      rintro e w2 ⟨rfl, rfl⟩
      go_wp2_with fail
      rw [Option.bind_some]
      dsimp only
      rw [if_neg HN1.out]
      exact ⟨rfl, HF.out.mono fun k _ h => .inl h, rfl, _, _, HQ.out.2.fr HF.out HQ.out.1.2⟩
end Go.Proofs.YtebdmfmadbikaaaDoor.WiW
