/- poly.At. -/
import Derived.Test.YtciilojlfaihjaaPlMul
namespace Go.Proofs.Ytciilojlfaihjaa.PlW
open Go.RowKit Go.Shelf Mem Gf FdW Pl Rng
set_option linter.unusedVariables false
attribute [local go_sem] Oper.semAt_some wide_fn

theorem downL_snd (l : List UInt8) : (downL l l.length).map Prod.snd = l.reverse := by
  apply List.ext_getElem
  · simp [downL]
  · intro i h1 h2
    simp [downL] at h1
    simp [downL, cf_lt (show l.length - 1 - i < l.length by omega)]
/-- What has been summed. -/
def atv (x0 : UInt8) (pre : List (Nat × UInt8)) : UInt8 := pre.foldl (fun y c => mul y x0 ^^^ c.2) 0
theorem atv_snoc (x0 : UInt8) (pre : List (Nat × UInt8)) (c : Nat × UInt8) : atv x0 (pre ++ [c]) = mul (atv x0 pre) x0 ^^^ c.2 := by simp [atv]
theorem atv_all (x0 : UInt8) (l : List UInt8) : atv x0 (downL l l.length) = ev l x0 := by
  have h : atv x0 (downL l l.length) = ((downL l l.length).map Prod.snd).foldl (fun y c => mul y x0 ^^^ c) 0 := by rw [List.foldl_map]; rfl
  rw [h, downL_snd, List.foldl_reverse]; rfl
theorem Still.fld {B : Nat} {W W' : World} {p : Nat} (h : Still B W W') (hp : Fld W p) : Fld W' p := by
  rcases hp with ⟨cs, hb, r⟩ | ⟨cs, hb, r⟩
  · exact .inl ⟨cs, h.blk hb, r⟩
  · exact .inr ⟨cs, h.blk hb, r⟩
theorem Still.bytes {B n : Nat} {W W' : World} {A : Option Addr} {l : List UInt8} (h : Still B W W') (hp : Bytes W n A l) : Bytes W' n A l := h.cells hp

set_option maxRecDepth 100000 in
set_option maxHeartbeats 2000000 in
theorem at_any (w : World) (p : Nat) (hp : Fld w p) (A : Option Addr) (l : List UInt8) (n cap : Nat) (hn : n = l.length) (hl : (l.length : Int) ≤ 1000000) (hA : In w p A l) (x0 : Int) (x : UInt8) (hx : x0 = (x.toNat : Int)) :
    Calls Try.prog 26 #[fptr (some p), .slice A n cap, .int .u8 x0] w (Ans (some p) w (.int .u8 ((ev l x).toNat : Int))) := by
  subst hn; subst hx
  refine of_wide ?_
  refine callsIn_of_wp_marks Try.func26 rfl trivial ?_ rfl
  simp only [Try.ntmps26, List.size_toArray, List.length_cons, List.length_nil, Nat.reduceAdd, Nat.reduceSub, Array.replicate_succ, Array.replicate_zero, List.push_toArray, List.append_toArray, List.nil_append, List.cons_append]
  have HL := Lib.hid hl
  have HA := Lib.hid hA
  have HP := Lib.hid hp
  have HPL := Lib.hid hp.lt
  have hps : fptr (some p) = .pointer (some ⟨p, 0, none⟩) := rfl
  rw [hps]
  clear hl hA hp hps
  gi_wp2_with (gi_at_call 36; refine (back_in Fence.wide 4 trivial rfl _ _ _ _).mono ?_; rintro e w' ⟨rfl, rfl⟩)
  obtain ⟨wa, hwa⟩ : ∃ wa, wa = (((w.alloc (.cells #[.pointer (some ⟨p, 0, none⟩)] 24)).alloc (.cells #[.int .u8 (x.toNat : Int)] 5)).alloc (.cells #[.int .u8 0] 5)).alloc (.cells #[.slice A l.length cap] 22) := ⟨_, rfl⟩
  have bF : Blk wa w.heap.size 24 #[.pointer (some ⟨p, 0, none⟩)] := by rw [hwa]; exact (((Blk.new w _ _).alloc _).alloc _).alloc _
  have bX : Blk wa (w.heap.size + 1) 5 #[.int .u8 (x.toNat : Int)] := by
    rw [hwa]; have := ((Blk.new (w.alloc (.cells #[.pointer (some ⟨p, 0, none⟩)] 24)) 5 #[.int .u8 (x.toNat : Int)]).alloc (.cells #[.int .u8 0] 5)).alloc (.cells #[.slice A l.length cap] 22)
    rwa [World.size_alloc] at this
  have bY : Blk wa (w.heap.size + 1 + 1) 5 #[.int .u8 0] := by
    rw [hwa]; have := (Blk.new ((w.alloc (.cells #[.pointer (some ⟨p, 0, none⟩)] 24)).alloc (.cells #[.int .u8 (x.toNat : Int)] 5)) 5 #[.int .u8 0]).alloc (.cells #[.slice A l.length cap] 22)
    rwa [World.size_alloc, World.size_alloc] at this
  have bN : Blk wa (w.heap.size + 1 + 1 + 1) 22 #[.slice A l.length cap] := by
    rw [hwa]; have := Blk.new (((w.alloc (.cells #[.pointer (some ⟨p, 0, none⟩)] 24)).alloc (.cells #[.int .u8 (x.toNat : Int)] 5)).alloc (.cells #[.int .u8 0] 5)) 22 #[.slice A l.length cap]
    rwa [World.size_alloc, World.size_alloc, World.size_alloc] at this
  have hB0 : Below w.heap.size w wa := by rw [hwa]; exact ((((Below.refl _ w).alloc (Nat.le_refl _) _).alloc (by simp) _).alloc (by simp; omega) _).alloc (by simp; omega) _
  have hsz : wa.heap.size = w.heap.size + 1 + 1 + 1 + 1 := by rw [hwa]; simp
  rw [← hwa]
  clear hwa
  generalize h3 : w.heap.size + 1 + 1 + 1 = N3 at *
  generalize h2 : w.heap.size + 1 + 1 = N2 at *
  generalize h1 : w.heap.size + 1 = N1 at *
  have HN := Lib.hid (And.intro h1 (And.intro h2 (And.intro h3 hsz)))
  have hpl := HPL.out
  have hne : p ≠ w.heap.size ∧ p ≠ N1 ∧ p ≠ N2 ∧ p ≠ N3 ∧ N2 ≠ w.heap.size ∧ N2 ≠ N1 ∧ N3 ≠ N2 ∧ w.heap.size ≤ N2 ∧ w.heap.size ≤ N3 := by omega
  have HNE := Lib.hid hne
  clear h1 h2 h3 hsz hne hpl
  refine wpIn_range (gf := 42) (lb := #[.pointer (some ⟨N3, 0, none⟩)]) rfl (enters_of Try.func42 (by kernel_rfl) rfl)
    (back_stops N3 (N3 + 1) cap (fun k => k = p ∨ k = N2) A l HL.out _ (by omega) (by have := HNE.out; omega) (by have := HN.out; omega) (by rw [bN.cell]; rfl) ((HA.out.1.below hB0).up (by have := HNE.out; omega)) (fun b o e hl => by
      have h1 := HA.out.2 b o e hl
      obtain ⟨b', o', e', hb, _⟩ := HA.out.1 (by simpa using hl)
      rw [e] at e'; injection e' with e'; injection e' with e' _
      have := HNE.out
      omega)) (by have := HN.out; omega) (Below.refl _ _) (fun _ => rfl)
    (fun pre W => (Blk W w.heap.size 24 #[.pointer (some ⟨p, 0, none⟩)] ∧ Blk W N1 5 #[.int .u8 (x.toNat : Int)] ∧ Blk W N2 5 #[.int .u8 ((atv x pre).toNat : Int)]) ∧ Fld W p ∧ Fr (fun k => k = p) w W)
    (fun c pre W => False)
    (fun s W W' h ⟨⟨h1, h2, h3⟩, h4, h5⟩ => ⟨⟨h.blk h1, h.blk h2, h.blk h3⟩, Still.fld h h4, h.fr h5 (by have := HN.out; omega)⟩)
    (fun c => abd_false)
    ⟨⟨bF, bX, bY⟩, HP.out.keep hB0, Fr.quiet hB0⟩
    (fun c => { tmps := #[.pointer (some ⟨p, 0, none⟩), .slice A l.length cap, .int .u8 (x.toNat : Int), .pointer (some ⟨w.heap.size, 0, none⟩), undef, .pointer (some ⟨N1, 0, none⟩), .int .u8 0, .pointer (some ⟨N2, 0, none⟩), undef, .int .u8 (c.2.toNat : Int), .slice A l.length cap, .func (.func 42) #[] #[.pointer (some ⟨N3, 0, none⟩)], .int .i64 (c.1 : Int), .int .u8 (c.2.toNat : Int), undef, undef, undef, undef, undef, undef, undef], defers := [] }) ?assign ?body ?done ?stop
  case assign =>
    intro lp c W K hK
    gi_wp2
    exact hK
  case body =>
    rintro lp pre c W ⟨⟨b1, b2, b3⟩, hF, hfr⟩ _
    have hc1 := b1.cell 0
    have hc2 := b2.cell 0
    have hc3 := b3.cell 0
    have HC := Lib.hid (And.intro (And.intro b1 (And.intro b2 b3)) (And.intro hF hfr))
    have HE := Lib.hid (atv_snoc x pre c)
    have HLT := Lib.hid (And.intro b1.lt (And.intro b2.lt b3.lt))
    clear b1 b2 b3 hF hfr
    generalize atv x pre = y at *
    generalize c.2 = z at *
    gi_wp2_with (first
      | (gi_at_call 31; refine (wideR (mul_any W (some p) (FldR.some HC.out.2.1) _ _ y x rfl rfl)).mono ?_; (rintro e w1 ⟨rfl, hF1, hf1⟩; have hc4 : w1.cell? ⟨N2, 0, none⟩ = some (.int .u8 (y.toNat : Int)) := (World.cell?_of_block (hf1.block N2 HLT.out.2.2 (fun h => HNE.out.2.2.1 (by injection h)))).trans hc3; have hz4 : w1.frozen? ⟨N2, 0, none⟩ = false := (World.frozen?_of_block (hf1.block N2 HLT.out.2.2 (fun h => HNE.out.2.2.1 (by injection h)))).trans (HC.out.1.2.2.frozen 0); have H1 := Lib.hid (And.intro hF1 hf1); clear hF1 hf1))
      | (gi_at_call 30; refine (wideR (add_any _ _ (mul y x) z rfl rfl _)).mono ?_; (rintro e w2 ⟨rfl, rfl⟩)))
    have HS := Lib.hid (Fr.setCell (p := ⟨N2, 0, none⟩) (Fr.mono (S' := fun k => k = p ∨ k = N2) H1.out.2 (fun k _ h => .inl (by injection h with h; exact h.symm))) (fun _ => .inr rfl) (.int .u8 ((mul y x ^^^ z).toNat : Int)))
    refine ⟨keepsFrom_of_fr HS.out (fun k h _ => by have := HN.out; have := HPL.out; have := HNE.out; rcases h with h | h <;> omega), HS.out.mono (fun k _ h => .inl h), ⟨⟨?_, ?_, ?_⟩, ?_, ?_⟩⟩
    · exact (HC.out.1.1.fr H1.out.2 (fun h => HNE.out.1 (by injection h))).far (by show N2 ≠ _; have := HNE.out; omega) _
    · exact (HC.out.1.2.1.fr H1.out.2 (fun h => HNE.out.2.1 (by injection h))).far (by show N2 ≠ _; have := HNE.out; omega) _
    · rw [HE.out]; exact (HC.out.1.2.2.fr H1.out.2 (fun h => HNE.out.2.2.1 (by injection h))).set_ 0 _
    · exact (H1.out.1 p rfl).fr ((Fr.refl (fun k => k = N2) _).setCell (p := ⟨N2, 0, none⟩) (fun _ => rfl) _) (fun h => by have := HNE.out; omega)
    · exact (HC.out.2.2.trans H1.out.2 (fun k _ h => by injection h with h; exact h.symm)).setCell (p := ⟨N2, 0, none⟩) (fun h => by have := HNE.out; simp at h; omega) _
  case done =>
    rintro D ys W hD rfl ⟨⟨b1, b2, b3⟩, hF, hfr⟩ hK
    have hc3 := b3.cell 0
    rw [atv_all] at hc3
    have HC := Lib.hid (And.intro hF hfr)
    have HB3 := Lib.hid b3
    clear hF hfr b1 b2 b3
    gi_wp2
    have HST := Lib.hid (shut_still (B := 0) (.deferred none) hK rfl (Nat.zero_le _))
    refine ⟨by simp, .inl ⟨_, _, rfl, run_takeDeferred hK, ?_⟩⟩
    exact ⟨_, results_tmp rfl _ _ _, rfl, FldR.some (Still.fld HST.out HC.out.1), shut_fr (HC.out.2.mono fun k _ h => by rw [h]) (by have := HN.out; omega) _⟩
  case stop =>
    rintro D c pre W hD _ h
    exact h.elim
end Go.Proofs.Ytciilojlfaihjaa.PlW
