/- points.Cosets. -/
import Derived.Test.YtaeoocpiggebmaaPtRefSpr
namespace Go.Proofs.Ytaeoocpiggebmaa.PtW
open Go.RowKit Go.Shelf Mem Gf FdW Rng
set_option linter.unusedVariables false
set_option linter.unusedSimpArgs false

/-- The points of the first k groups of R + 1, by the step s. -/
def cosL (s R1 : Nat) : Nat → List UInt8
  | 0 => []
  | k + 1 => cosL s R1 k ++ (List.range R1).map (pl k s)
theorem cosL_len (s R1 k : Nat) : (cosL s R1 k).length = R1 * k := by
  induction k with
  | zero => rfl
  | succ k ih => rw [cosL, List.length_append, ih, List.length_map, List.length_range, Nat.mul_succ]
def CosOk (r g : Int) : Prop := 1 ≤ r ∧ r ≤ 254 ∧ 255 % (r + 1) = 0 ∧ 0 ≤ g ∧ g ≤ 255 / (r + 1)
def CosF (w : World) (p : Nat) (r g : Int) (e : Ending) (w' : World) : Prop := (CosOk r g ∧ OfOk w p (cosL (255 / (r.toNat + 1)) (r.toNat + 1) g.toNat) e w') ∨ (¬ CosOk r g ∧ OfNo w p e w')

set_option maxHeartbeats 4000000 in
theorem cosets_no (w : World) (p : Nat) (hF : Fld w p) (r g : Int) (h : ¬ CosOk r g) : Calls Try.prog 14 #[fptr (some p), .int .i64 r, .int .i64 g] w (CosF w p r g) := by
  have hps : fptr (some p) = .pointer (some ⟨p, 0, none⟩) := rfl
  have HR := Lib.hid (show CosF w p r g (.returned (.tuple #[.slice none 0 0, .int .i64 2])) w from .inr ⟨h, rfl, hF, Fr.refl _ _⟩)
  rw [hps]
  clear hps hF
  by_cases h1 : r < 1
  · go_enter Try.func14, Try.ntmps14
    go_wp2_with fail
    go_ret2
    exact HR.out
  by_cases h2 : 255 ≤ r
  · go_enter Try.func14, Try.ntmps14
    go_wp2_with fail
    go_ret2
    exact HR.out
  have hr1 : (1 : Int) ≤ r := by omega
  have hr2 : r ≤ 254 := by omega
  have ht : (255 : Int).tmod (r + 1) = 255 % (r + 1) := Int.tmod_eq_emod_of_nonneg (by omega)
  have hd : (255 : Int).tdiv (r + 1) = 255 / (r + 1) := Int.tdiv_eq_ediv_of_nonneg (by omega)
  have hz : ((r + 1 : Int) == 0) = false := by simp; omega
  have HC := Lib.hid (show ¬ (255 % (r + 1) = 0 ∧ 0 ≤ g ∧ g ≤ 255 / (r + 1)) from fun h' => h ⟨hr1, hr2, h'⟩)
  clear h
  have hm0 : 0 ≤ 255 % (r + 1) := Int.emod_nonneg _ (by omega)
  have hq0 : 0 ≤ 255 / (r + 1) := Int.ediv_nonneg (by omega) (by omega)
  have hq1 : 255 / (r + 1) ≤ 255 := Int.ediv_le_self _ (by omega)
  generalize 255 % (r + 1) = m at *
  generalize 255 / (r + 1) = q at *
  by_cases h3 : m = 0
  · subst h3
    by_cases h4 : g < 0
    · go_enter Try.func14, Try.ntmps14
      go_wp2_with fail
      go_ret2
      exact HR.out
    · have h5 : q < g := by have := HC.out; omega
      go_enter Try.func14, Try.ntmps14
      go_wp2_with fail
      go_ret2
      exact HR.out
  · have h3b : (m == 0) = false := by simpa using h3
    go_enter Try.func14, Try.ntmps14
    go_wp2_with fail
    go_ret2
    exact HR.out

set_option maxRecDepth 100000 in
set_option maxHeartbeats 8000000 in
theorem cosets_ok (w : World) (p : Nat) (hF : Fld w p) (R G s : Nat) (hR : 1 ≤ R ∧ R ≤ 254) (hs : 255 / (R + 1) = s) (hm : 255 % (R + 1) = 0) (hG : G ≤ s) : Calls Try.prog 14 #[fptr (some p), .int .i64 (R : Int), .int .i64 (G : Int)] w (OfOk w p (cosL s (R + 1) G)) := by
  have hps : fptr (some p) = .pointer (some ⟨p, 0, none⟩) := rfl
  have hmul : s * (R + 1) = 255 := by have := Nat.div_add_mod 255 (R + 1); rw [hs, hm, Nat.add_zero, Nat.mul_comm] at this; exact this
  have hs1 : s ≤ 255 := by rw [← hs]; exact Nat.div_le_self _ _
  have hs0 : 1 ≤ s := by
    rcases Nat.eq_zero_or_pos s with h | h
    · rw [h, Nat.zero_mul] at hmul; omega
    · exact h
  have r1 : (1 : Int) ≤ (R : Int) := by omega
  have r2 : (R : Int) ≤ 254 := by omega
  have ht : (255 : Int).tmod ((R : Int) + 1) = 0 := by rw [Int.tmod_eq_emod_of_nonneg (by omega), show (255 : Int) % ((R : Int) + 1) = ((255 % (R + 1) : Nat) : Int) from by simp, hm]; rfl
  have hd : (255 : Int).tdiv ((R : Int) + 1) = (s : Int) := by rw [Int.tdiv_eq_ediv_of_nonneg (by omega), ← hs]; simp
  have hz : (((R : Int) + 1) == 0) = false := by simp; omega
  have g0 : (0 : Int) ≤ (G : Int) := by omega
  have g1 : (G : Int) ≤ (s : Int) := by omega
  have s1 : (s : Int) ≤ 255 := by omega
  have s0 : (0 : Int) ≤ (s : Int) := by omega
  have n1 : ¬ (R : Int) < 1 := by omega
  have n2 : ¬ (255 : Int) ≤ (R : Int) := by omega
  have n3 : ¬ (G : Int) < 0 := by omega
  have n4 : ¬ (s : Int) < (G : Int) := by omega
  have HN := Lib.hid (And.intro (And.intro hmul hs0) (And.intro hR hG))
  have HF := Lib.hid hF
  have HP := Lib.hid (fun wr (f t : Int) => powers_any wr p f t)
  rw [hps] at HP ⊢
  clear hps hF hmul hs1 hs0 hs hm hR hG
  go_enter Try.func14, Try.ntmps14
  go_wp2_with fail
  go_loopw [8, 34] (fun l i wr => ∃ (k : Nat) (A : Option Addr) (c m : Nat), i = .int .i64 (k : Int) ∧ l = .slice A m c ∧ m = (cosL s (R + 1) k).length ∧ k ≤ G ∧ Mem.Own wr w.heap.size 5 A c ((cosL s (R + 1) k).map u8v) ∧ Fld wr p ∧ Fr (fun k => k = p) w wr) (fun _ i _ => G - (intOf i).toNat)
  case atStart => exact ⟨0, none, 0, 0, rfl, rfl, rfl, by omega, Mem.Own.nil, HF.out, Fr.refl _ _⟩
  case round =>
    obtain ⟨k, A, c, m, rfl, rfl, hml, hk, ho, hf, hfr⟩ := hrel
    have HR := Lib.hid (And.intro ho (And.intro hf hfr))
    have HML := Lib.hid hml
    clear ho hf hfr hml
    by_cases hkG : k < G
    · have hkg : (k : Int) < (G : Int) := by omega
      have hk0 : (0 : Int) ≤ (k : Int) := by omega
      go_wp2_with fail
      refine (HP.out wr _ _).mono ?_
      rintro e w1 ⟨rfl, rfl⟩
      have b0 := (((Blk.new wr 22 #[.pointer (some ⟨p, 0, none⟩)]).alloc (.cells #[.int .i64 (k : Int)] 3)).alloc (.cells #[.int .i64 (s : Int)] 3))
      have b1 := (Blk.new (wr.alloc (.cells #[.pointer (some ⟨p, 0, none⟩)] 22)) 3 #[.int .i64 (k : Int)]).alloc (.cells #[.int .i64 (s : Int)] 3)
      have b2 := Blk.new ((wr.alloc (.cells #[.pointer (some ⟨p, 0, none⟩)] 22)).alloc (.cells #[.int .i64 (k : Int)] 3)) 3 #[.int .i64 (s : Int)]
      have hb1 := nextA (nextA (nextA (Mem.start wr) (.cells #[.pointer (some ⟨p, 0, none⟩)] 22)) (.cells #[.int .i64 (k : Int)] 3)) (.cells #[.int .i64 (s : Int)] 3)
      rw [World.size_alloc] at b1
      rw [World.size_alloc, World.size_alloc] at b2
      have hs3 : (((wr.alloc (.cells #[.pointer (some ⟨p, 0, none⟩)] 22)).alloc (.cells #[.int .i64 (k : Int)] 3)).alloc (.cells #[.int .i64 (s : Int)] 3)).heap.size = wr.heap.size + 3 := by simp
      have H1 := Lib.hid (And.intro b0 (And.intro b1 (And.intro b2 (And.intro hb1 hs3))))
      clear b0 b1 b2 hb1 hs3
      generalize ((wr.alloc (.cells #[.pointer (some ⟨p, 0, none⟩)] 22)).alloc (.cells #[.int .i64 (k : Int)] 3)).alloc (.cells #[.int .i64 (s : Int)] 3) = w1 at *
      go_wp2_with fail
      refine (first_any w1 _ rfl _).mono ?_
      rintro e w2 ⟨rfl, rfl⟩
      generalize hv : Value.func (.func 33) #[] #[.pointer (some ⟨wr.heap.size + 1, 0, none⟩), .pointer (some ⟨wr.heap.size, 0, none⟩), .pointer (some ⟨wr.heap.size + 1 + 1, 0, none⟩)] = v
      have d0 := (Blk.new w1 59 #[v]).alloc (.cells #[.int .i64 ((R : Int) + 1)] 3)
      have d1 := Blk.new (w1.alloc (.cells #[v] 59)) 3 #[.int .i64 ((R : Int) + 1)]
      rw [World.size_alloc] at d1
      have hbl := nextA (nextA (Mem.start w1) (.cells #[v] 59)) (.cells #[.int .i64 ((R : Int) + 1)] 3)
      have hb2 := next H1.out.2.2.2.1 hbl
      have hpw := HF.out.lt
      have hszr := HR.out.2.2.size
      have hAne : ∀ q, A = some ⟨q, 0, none⟩ → w.heap.size ≤ q ∧ q < wr.heap.size := fun q hq => by
        rcases HR.out.1.form with ⟨e, _⟩ | ⟨g, e, h1, h2, _⟩
        · rw [hq] at e; cases e
        · rw [hq] at e; injection e with e; injection e with e; omega
      have hlen : (cosL s (R + 1) k).length ≤ 255 := by
        rw [cosL_len]
        have h1 := HN.out.1.1
        have h2 : (R + 1) * k ≤ (R + 1) * s := Nat.mul_le_mul_left _ (by have := HN.out.2.2; omega)
        rw [Nat.mul_comm (R + 1) s] at h2; omega
      have HQ := Lib.hid (appendSeq_any ((w1.alloc (.cells #[v] 59)).alloc (.cells #[.int .i64 ((R : Int) + 1)] 3)) p (w1.heap.size + 1) w1.heap.size wr.heap.size (wr.heap.size + 1) (wr.heap.size + 1 + 1) k s (R + 1) (R + 1) HN.out.1.2 (by have := HN.out.1.1; have := HN.out.2.2; omega) (Nat.le_refl _) (by omega)
        (HR.out.2.1.keep hb2) w.heap.size (Nat.le_trans hszr hb2.size) A (cosL s (R + 1) k) m c HML.out (HR.out.1.keep hb2) (by omega) (fun q hq => by have := hAne q hq; omega) ⟨by omega, by omega, by omega⟩ (one d1) (by rw [hv]; exact one d0) (one (H1.out.1.keep hbl)) (one (H1.out.2.1.keep hbl)) (one (H1.out.2.2.1.keep hbl)))
      have HB2 := Lib.hid (And.intro hb2 hAne)
      clear d0 d1 hbl hb2 hpw hszr hAne hlen hv
      go_wp2_with fail
      refine HQ.out.mono ?_
      rintro e w3 ⟨A', c', rfl, ho, _, hF3, hf3⟩
      have H3 := Lib.hid (And.intro ho (And.intro hF3 hf3))
      clear ho hF3 hf3 HQ
      go_wp2_with fail
      go_roundw
      case rel =>
        refine ⟨k + 1, A', c', _, by simp, rfl, ?_, hkG, H3.out.1, H3.out.2.1, ?_⟩
        · rw [cosL, List.length_append, List.length_map, List.length_range]
        · refine (HR.out.2.2.trans (Fr.quiet (S := fun _ => False) HB2.out.1) fun _ _ h => h.elim).trans H3.out.2.2 fun i hi h => ?_
          rcases h with h | h
          · exact h
          · have := HB2.out.2 i h; omega
      case measure => simp [intOf]; omega
    · obtain rfl : k = G := by omega
      go_wp2_with fail
      go_ret2
      exact ⟨A, c, by rw [← HML.out]; rfl, HR.out.1, HR.out.2.1, HR.out.2.2⟩
theorem cosets_any (w : World) (p : Nat) (hF : Fld w p) (r g : Int) : Calls Try.prog 14 #[fptr (some p), .int .i64 r, .int .i64 g] w (CosF w p r g) := by
  by_cases h : CosOk r g
  · obtain ⟨h1, h2, h3, h4, h5⟩ := h
    obtain ⟨R, rfl⟩ : ∃ R : Nat, r = (R : Int) := ⟨r.toNat, by omega⟩
    obtain ⟨G, rfl⟩ : ∃ G : Nat, g = (G : Int) := ⟨g.toNat, by omega⟩
    have e1 : (255 : Int) % ((R : Int) + 1) = ((255 % (R + 1) : Nat) : Int) := by simp
    have e2 : (255 : Int) / ((R : Int) + 1) = ((255 / (R + 1) : Nat) : Int) := by simp
    rw [e1] at h3
    rw [e2] at h5
    have h3' : 255 % (R + 1) = 0 := by omega
    have h5' : G ≤ 255 / (R + 1) := by omega
    refine (cosets_ok w p hF R G (255 / (R + 1)) (by omega) rfl h3' h5').mono fun e w' h => .inl ⟨⟨h1, h2, by rw [e1]; exact h3, h4, by rw [e2]; exact h5⟩, h⟩
  · exact cosets_no w p hF r g h
end Go.Proofs.Ytaeoocpiggebmaa.PtW
