/- poly.Degree. -/
import Derived.Test.YtciilojlfaihjaaPlBack
namespace Go.Proofs.Ytciilojlfaihjaa.PlW
open Go.RowKit Go.Shelf Mem Gf FdW Pl Rng
set_option linter.unusedVariables false
attribute [local go_sem] Oper.semAt_some wide_fn

/-- slices.Backward's function value has its contract: the last byte first. -/
theorem back_stops (Bs N1 cap : Nat) (T : Nat → Prop) (A : Option Addr) (l : List UInt8) (hl : (l.length : Int) ≤ 1000000) (w : World) (hBs : Bs < N1) (hBT : ¬ T Bs) (hN : N1 ≤ w.heap.size)
    (hw : w.cell? ⟨Bs, 0, none⟩ = some (.slice A l.length cap)) (hI : Bytes w N1 A l) (hT : ∀ b o, A = some ⟨b, o, none⟩ → 0 < l.length → ¬ T b) :
    SeqStopsK Fence.wide 4 Try.prog 42 #[.pointer (some ⟨Bs, 0, none⟩)] (fun x : Nat × UInt8 => #[Value.int .i64 (x.1 : Int), Value.int .u8 (x.2.toNat : Int)]) (Kp T N1) (fun ys => ys = downL l l.length) (fun pre => ∃ k, k ≤ l.length ∧ pre = downL l k) l.length w := by
  intro lp J Jx W hW _ _ hY h0
  have hBs' := (hW.cell (p := ⟨Bs, 0, none⟩) (by show Bs < w.heap.size; omega)).trans hw
  by_cases hz : 0 < l.length
  · obtain ⟨b, off, rfl, hb, hc⟩ := hI (by simpa using hz)
    refine back1_in Fence.wide 4 trivial rfl (by omega) lp Bs b off cap N1 T l hl hb (hT b off rfl hz) hBs hBT J Jx hY W hBs' (fun j hj => ?_) h0
    refine (hW.cell (p := ⟨b, off + j, none⟩) (by show b < w.heap.size; omega)).trans (hc j _ ?_)
    rw [List.getElem?_map, List.getElem?_eq_getElem hj, cf_lt hj]; rfl
  · obtain rfl : l = [] := List.eq_nil_of_length_eq_zero (by omega)
    exact (back1_nil_in Fence.wide 4 trivial rfl lp Bs cap A J W hBs' h0).mono fun e W' ⟨he, hj⟩ => ⟨he, .inl ⟨_, rfl, hj⟩⟩

theorem deg_none {l : List UInt8} (h : ∀ p ∈ downL l l.length, p.2 = 0) : len l = 0 :=
  len_zero.2 fun i => by
    by_cases hi : i < l.length
    · have := h (i, cf l i) (by
        simp only [downL, List.mem_map, List.mem_range]
        exact ⟨l.length - 1 - i, by omega, by rw [show l.length - 1 - (l.length - 1 - i) = i by omega]⟩)
      exact this
    · exact cf_ge (by omega)
theorem deg_some {l : List UInt8} {k : Nat} {ini : List (Nat × UInt8)} {last : Nat × UInt8} (hk : k ≤ l.length) (e : downL l k = ini ++ [last]) (h0 : ∀ p ∈ ini, p.2 = 0) (h1 : last.2 ≠ 0) : (len l : Int) - 1 = (last.1 : Int) := by
  obtain ⟨m, rfl⟩ : ∃ m, k = m + 1 := by
    cases k with
    | zero => simp [downL] at e
    | succ m => exact ⟨m, rfl⟩
  rw [downL_succ] at e
  obtain ⟨rfl, e5⟩ := List.append_inj' e rfl
  obtain rfl : (l.length - 1 - m, cf l (l.length - 1 - m)) = last := by simpa using e5
  have := len_eq (l := l) (n := l.length - 1 - m) (fun i hi => by
    by_cases hil : i < l.length
    · have := h0 (i, cf l i) (by
        simp only [downL, List.mem_map, List.mem_range]
        exact ⟨l.length - 1 - i, by omega, by rw [show l.length - 1 - (l.length - 1 - i) = i by omega]⟩)
      exact this
    · exact cf_ge (by omega)) h1
  show (len l : Int) - 1 = ((l.length - 1 - m : Nat) : Int)
  omega

set_option maxRecDepth 100000 in
set_option maxHeartbeats 2000000 in
theorem degree_any (w : World) (A : Option Addr) (cap : Nat) (l : List UInt8) (hl : (l.length : Int) ≤ 1000000) (hA : Bytes w w.heap.size A l) :
    Calls Try.prog 19 #[.slice A l.length cap] w fun e w' => e = .returned (.int .i64 ((len l : Int) - 1)) ∧ Below w.heap.size w w' := by
  refine of_wide ?_
  refine callsIn_of_wp_marks Try.func19 rfl trivial ?_ rfl
  simp only [Try.ntmps19, List.size_toArray, List.length_cons, List.length_nil, Nat.reduceAdd, Nat.reduceSub, Array.replicate_succ, Array.replicate_zero, List.push_toArray, List.append_toArray, List.nil_append, List.cons_append]
  have HL := Lib.hid hl
  have HA := Lib.hid hA
  clear hl hA
  gi_wp2_with (gi_at_call 36; refine (back_in Fence.wide 4 trivial rfl _ _ _ _).mono ?_; rintro e w' ⟨rfl, rfl⟩)
  have bR : Blk (w.alloc (.cells #[.int .i64 0] 3)) w.heap.size 3 #[.int .i64 0] := Blk.new w _ _
  have bN : Blk ((w.alloc (.cells #[.int .i64 0] 3)).alloc (.cells #[.slice A l.length cap] 22)) (w.heap.size + 1) 22 #[.slice A l.length cap] := by
    have := Blk.new (w.alloc (.cells #[.int .i64 0] 3)) 22 #[.slice A l.length cap]
    rwa [World.size_alloc] at this
  have hB0 : Below w.heap.size w ((w.alloc (.cells #[.int .i64 0] 3)).alloc (.cells #[.slice A l.length cap] 22)) := ((Below.refl _ w).alloc (Nat.le_refl _) _).alloc (by simp) _
  refine wpIn_range (gf := 42) (lb := #[.pointer (some ⟨w.heap.size + 1, 0, none⟩)]) rfl (enters_of Try.func42 (by kernel_rfl) rfl)
    (back_stops (w.heap.size + 1) (w.heap.size + 2) cap (fun k => k = w.heap.size) A l HL.out _ (by omega) (by omega) (by simp) (by rw [bN.cell]; rfl) ((HA.out.below hB0).up (by omega)) (fun b o e hl => by obtain ⟨b', o', e', hb, _⟩ := HA.out (by simpa using hl); rw [e] at e'; injection e' with e'; injection e' with e'; omega)) (by simp) (Below.refl _ _) (fun _ => rfl)
    (fun pre W => (∀ p ∈ pre, p.2 = 0) ∧ Blk W w.heap.size 3 #[.int .i64 0] ∧ Fr (fun _ => False) w W)
    (fun c pre W => c = .ret ∧ (∃ ini last, pre = ini ++ [last] ∧ (∀ p ∈ ini, p.2 = 0) ∧ last.2 ≠ 0 ∧ Blk W w.heap.size 3 #[.int .i64 (last.1 : Int)]) ∧ Fr (fun _ => False) w W)
    (fun s W W' h ⟨h1, h2, h3⟩ => ⟨h1, h.blk h2, h.fr h3 (by simp; omega)⟩)
    (fun c s W W' h ⟨h1, ⟨ini, last, e1, e2, e3, h2⟩, h3⟩ => ⟨h1, ⟨ini, last, e1, e2, e3, h.blk h2⟩, h.fr h3 (by simp; omega)⟩)
    ⟨by simp, bR.alloc _, Fr.quiet hB0⟩
    (fun x => { tmps := #[.slice A l.length cap, undef, .pointer (some ⟨w.heap.size, 0, none⟩), .int .i64 (x.1 : Int), .int .u8 (x.2.toNat : Int), .slice A l.length cap, .func (.func 42) #[] #[.pointer (some ⟨w.heap.size + 1, 0, none⟩)], .int .i64 (x.1 : Int), .int .u8 (x.2.toNat : Int), undef, undef, undef], defers := [] }) ?assign ?body ?done ?stop
  case assign =>
    intro l x W K hK
    gi_wp2
    exact hK
  case body =>
    rintro l pre x W ⟨hp, hcr, hfr⟩ _
    have hc1 := hcr.cell 0
    have hf1 := hcr.frozen 0
    have HC := Lib.hid (And.intro hp (And.intro hcr hfr))
    clear hp hcr hfr
    by_cases hx0 : x.2 = 0
    · have hz : ((x.2.toNat : Int) != 0) = false := by rw [hx0]; rfl
      have HX := Lib.hid hx0
      clear hx0
      gi_wp2
      exact ⟨KeepsFrom.refl _ _, Fr.refl _ _, (fun p hp' => (List.mem_append.1 hp').elim (HC.out.1 p) (fun e => by simp at e; subst e; exact HX.out)), HC.out.2⟩
    · have hz : ((x.2.toNat : Int) != 0) = true := by rw [bne, u8_zero_no hx0]; rfl
      have HX := Lib.hid hx0
      clear hx0
      gi_wp2
      exact ⟨(KeepsOthers.setCell _ _ _).from _, rfl, ⟨pre, x, rfl, HC.out.1, HX.out, HC.out.2.1.set_ 0 _⟩, HC.out.2.2.setCell (p := ⟨w.heap.size, 0, none⟩) (fun h => by simp at h) _⟩
  case done =>
    rintro D ys W hD rfl ⟨hp, hcr, hfr⟩ hK
    have hc1 := hcr.cell 0
    have hf1 := hcr.frozen 0
    have HC := Lib.hid (And.intro hp (And.intro hcr hfr))
    clear hp hcr hfr
    gi_wp2
    have hK' := (KeepsOthers.setCell W ⟨w.heap.size, 0, none⟩ (.int .i64 (-1))).same D _ hK rfl
    have hc5 := (shut_still (B := 0) (.deferred none) hK' rfl (Nat.zero_le _)).blk (HC.out.2.1.set_ 0 (.int .i64 (-1))) |>.cell 0
    refine ⟨by simp, .inl ⟨_, _, rfl, run_takeDeferred hK', ?_⟩⟩
    refine ⟨.int .i64 (-1), ?_, by rw [deg_none HC.out.1]; rfl, (shut_fr (HC.out.2.2.setCell (p := ⟨w.heap.size, 0, none⟩) (fun h => by simp at h) _) (by simp at hD; omega) _).below (Nat.le_refl _) (fun _ h => h.elim)⟩
    simp [results, Try.results19, go_sem, hc5]
  case stop =>
    rintro D c pre W hD ⟨k, hk, rfl⟩ ⟨rfl, ⟨ini, last, e1, e2, e3, hcr⟩, hfr⟩ hK
    have hc5 := (shut_still (B := 0) (.deferred none) hK rfl (Nat.zero_le _)).blk hcr |>.cell 0
    have HC := Lib.hid (deg_some hk e1 e2 e3)
    clear e1 e2 e3
    gi_wp2
    refine ⟨by simp, .inl ⟨_, _, rfl, run_takeDeferred hK, ?_⟩⟩
    refine ⟨.int .i64 (last.1 : Int), ?_, by rw [HC.out], (shut_fr hfr (by simp at hD; omega) _).below (Nat.le_refl _) (fun _ h => h.elim)⟩
    simp [results, Try.results19, go_sem, hc5]
end Go.Proofs.Ytciilojlfaihjaa.PlW
