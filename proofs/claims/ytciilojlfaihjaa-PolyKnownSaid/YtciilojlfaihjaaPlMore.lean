/- poly.more: a row, times a number, added to another one from a place on. -/
import Derived.Test.YtciilojlfaihjaaPlIn
namespace Go.Proofs.Ytciilojlfaihjaa.PlW
open Go.RowKit Mem Gf FdW Pl
set_option linter.unusedVariables false

/-- What more leaves. -/
def MoreOk (w : World) (p base : Nat) (T : Option Addr) (ct : Nat) (t0 a : List UInt8) (c : UInt8) (n : Nat) (e : Ending) (w' : World) : Prop :=
  ∃ t, e = .returned (.tuple #[]) ∧ t.length = t0.length ∧ Eqv t (add t0 (sh n (sc c a))) ∧ Own w' base 5 T ct (t.map u8v) ∧ Fld w' p ∧ Fr (fun k => k = p ∨ T = some ⟨k, 0, none⟩) w w'
set_option maxRecDepth 100000 in
set_option maxHeartbeats 2000000 in
theorem more_any (w : World) (p base : Nat) (hp : Fld w p) (T : Option Addr) (ct : Nat) (t0 : List UInt8) (hT : Own w base 5 T ct (t0.map u8v)) (A : Option Addr) (ca : Nat) (a : List UInt8) (hA : In w p A a)
    (hne : ∀ b o, A = some ⟨b, o, none⟩ → 0 < a.length → T ≠ some ⟨b, 0, none⟩) (c : UInt8) (n : Nat) (hn : n + a.length ≤ t0.length) (hs : (t0.length : Int) ≤ 1000000) :
    Calls Try.prog 34 #[fptr (some p), .slice T t0.length ct, .slice A a.length ca, .int .u8 (c.toNat : Int), .int .i64 (n : Int)] w (MoreOk w p base T ct t0 a c n) := by
  have HN := Lib.hid hn
  have HA := Lib.hid hA
  have HNE := Lib.hid hne
  have HP := Lib.hid (And.intro hp hT)
  have hni : (n : Int) + (a.length : Int) ≤ 1000000 := by omega
  clear hn hA hne hp hT
  go_enter Try.func34, Try.ntmps34
  go_wp2_with fail
  go_loopw [14] (fun i wr => ∃ (j : Nat) (t : List UInt8), i = .int .i64 (j : Int) ∧ j ≤ a.length ∧ t.length = t0.length ∧ (∀ k, cf t k = cf t0 k ^^^ (if n ≤ k ∧ k < n + j then mul (cf a (k - n)) c else 0)) ∧ Own wr base 5 T ct (t.map u8v) ∧ Fld wr p ∧ Fr (fun k => k = p ∨ T = some ⟨k, 0, none⟩) w wr) (fun i _ => a.length - (intOf i).toNat)
  case atStart => exact ⟨0, t0, rfl, Nat.zero_le _, rfl, fun k => by rw [if_neg (by omega), Pl.xor_zero], HP.out.2, HP.out.1, Fr.refl _ _⟩
  case round =>
    obtain ⟨j, t, rfl, hj, htl, hcf, ho, hf, hfr⟩ := hrel
    have HR := Lib.hid (And.intro ho (And.intro hf hfr))
    have HC := Lib.hid (And.intro htl hcf)
    clear ho hf hfr hcf htl
    by_cases hja : j < a.length
    · have hIn := HA.out.fr HR.out.2.2 (fun b o e hl hk => hk.elim (HA.out.2 b o e hl) (HNE.out b o e hl))
      obtain ⟨b, off, rfl, hbl, hcell⟩ := hIn.1.at_ (k := j) (by simpa using hja)
      have hjt : j + n < t.length := by rw [HC.out.1]; have := HN.out; omega
      obtain ⟨g, rfl, hg, hgl, hcg, hfg, _⟩ := HR.out.1.at_ (k := j + n) (by simpa using hjt)
      have hgp : g ≠ p := (In.own HR.out.1 HR.out.2.1).2 g 0 rfl (by omega)
      have hcg' : wr.cell? ⟨g, j + n, none⟩ = some (.int .u8 ((cf t (j + n)).toNat : Int)) := by
        rw [hcg, List.getElem_map, cf_lt hjt]; rfl
      have hca : a[j] = cf a j := (cf_lt hja).symm
      rw [hca] at hcell
      have HF := Lib.hid (HR.out.2.1.keep (nextN (Mem.start wr) 1))
      have HST := Lib.hid (fun k => more_step hja (show n + j < t.length by omega) HC.out.2 k)
      have HOS := Lib.hid hjt
      clear hcg hca hIn
      have hji : (j : Int) < (a.length : Int) := by omega
      have hj0 : (0 : Int) ≤ (j : Int) := by omega
      have hn0 : (0 : Int) ≤ (n : Int) := by omega
      have hjn : (j : Int) + (n : Int) < (t0.length : Int) := by have := HC.out.1; omega
      have HV := Lib.hid (show cf t (j + n) = cf t (n + j) from by rw [Nat.add_comm])
      generalize cf t (j + n) = x at *
      generalize cf a j = y at *
      have hwr : IntKind.i64.wrap ((j : Int) + (n : Int)) = (j : Int) + (n : Int) := IntWalk.i64_in _ (by omega)
      have hnn : (0 : Int) ≤ (j : Int) + (n : Int) := by omega
      have htn : ((j : Int) + (n : Int)).toNat = j + n := by omega
      clear hjt
      go_wp2_with fail
      go_region_with (first
        | (go_at_call 31; refine (mul_any _ (some p) (FldR.some HF.out) _ _ y c rfl rfl).mono ?_; (rintro e w1 ⟨rfl, hF, hf1⟩; have hc1 : w1.cell? ⟨g, j + n, none⟩ = some (.int .u8 (x.toNat : Int)) := (World.cell?_of_block (hf1.block g hgl (fun h => hgp (by injection h with h; exact h.symm)))).trans hcg'; have hz1 : w1.frozen? ⟨g, j + n, none⟩ = false := (World.frozen?_of_block (hf1.block g hgl (fun h => hgp (by injection h with h; exact h.symm)))).trans hfg; have H1 := Lib.hid (And.intro hF hf1); clear hF hf1))
        | (go_at_call 30; refine (add_any _ _ x (mul y c) rfl rfl _).mono ?_; (rintro e w2 ⟨rfl, rfl⟩)))
      all_goals
        have HO1 := Lib.hid ((HR.out.1.fr ((Fr.refl (fun k => k = p) wr).drewN 1) (fun q hq e => hgp (by injection hq with hq; injection hq with hq; rw [hq]; exact e))).fr (H1.out.2) (fun q hq e => hgp (by injection hq with hq; injection hq with hq; rw [hq]; injection e with e; exact e.symm)))
        have HO2 := Lib.hid (own_set HO1.out HOS.out ((x.toNat ^^^ (mul y c).toNat : Nat) : Int) (x ^^^ mul y c) (by rw [UInt8.toNat_xor]))
        go_wp2_with fail
        go_roundw
        case rel =>
          refine ⟨j + 1, t.set (j + n) (x ^^^ mul y c), rfl, hja, by rw [List.length_set]; exact HC.out.1, fun k => by rw [HV.out, Nat.add_comm j n]; exact HST.out k, HO2.out, ?_, ?_⟩
          · exact (H1.out.1 p rfl).fr ((Fr.refl (fun k => k = g) _).setCell (p := ⟨g, j + n, none⟩) (fun _ => rfl) _) (fun e => hgp e.symm)
          · refine ((HR.out.2.2.drewN 1).trans H1.out.2 (fun k _ h => .inl (by injection h with h; exact h.symm))).setCell (p := ⟨g, j + n, none⟩) (fun _ => .inr rfl) _
        case measure => simp [intOf]; omega
    · obtain rfl : j = a.length := by omega
      go_wp2_with fail
      go_end0
      exact ⟨t, rfl, HC.out.1, more_end HC.out.2, HR.out⟩
end Go.Proofs.Ytciilojlfaihjaa.PlW
