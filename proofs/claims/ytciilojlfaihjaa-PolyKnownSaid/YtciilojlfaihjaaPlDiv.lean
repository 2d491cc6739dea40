/- poly.Div. -/
import Derived.Test.YtciilojlfaihjaaPlDown
import Derived.Test.YtciilojlfaihjaaPlDivP
import Derived.Test.YtciilojlfaihjaaHeld
namespace Go.Proofs.Ytciilojlfaihjaa.PlW
open Go.RowKit Go.Shelf Mem Gf FdW Pl Rng
set_option linter.unusedVariables false
attribute [local go_sem] Oper.semAt_some wide_fn

/-- What Div leaves. -/
def DivF (w : World) (p : Nat) (a b : List UInt8) (e : Ending) (w' : World) : Prop :=
  ∃ q r A c B d, DivOk a b q r ∧ e = .returned (.tuple #[.slice A (trim q).length c, .slice B (trim r).length d, .int .i64 0]) ∧ Mem.Own w' w.heap.size 5 A c ((trim q).map u8v) ∧ Mem.Own w' w.heap.size 5 B d ((trim r).map u8v) ∧ Fld w' p ∧ Fr (fun k => k = p) w w'
/-- What a round may turn. -/
def DivT (p G : Nat) (R : Option Addr) (k : Nat) : Prop := k = p ∨ k = G ∨ R = some ⟨k, 0, none⟩
/-- What holds between two rounds. -/
def DivI (w : World) (p N0 M1 N1 NR NQ G nb L d : Nat) (B1 R : Option Addr) (c1 cr : Nat) (ta tb : List UInt8) (k : Nat) (W : World) : Prop :=
  ∃ q r, DS ta tb L nb k q r ∧ (Blk W N0 24 #[.pointer (some ⟨p, 0, none⟩)] ∧ Blk W M1 22 #[.slice B1 (nb + 1) c1] ∧ Blk W N1 3 #[.int .i64 (nb : Int)] ∧ Blk W NR 22 #[.slice R L cr] ∧ Blk W NQ 22 #[.slice (some ⟨G, 0, none⟩) d d])
    ∧ (Mem.Own W w.heap.size 5 (some ⟨G, 0, none⟩) d (q.map u8v) ∧ Mem.Own W w.heap.size 5 R cr (r.map u8v) ∧ Mem.Own W w.heap.size 5 B1 c1 (tb.map u8v)) ∧ Fld W p ∧ Fr (fun k => k = p) w W
theorem DivI.still {B : Nat} {w : World} {p N0 M1 N1 NR NQ G nb L d : Nat} {B1 R : Option Addr} {c1 cr : Nat} {ta tb : List UInt8} {k : Nat} {W W' : World} (h : Still B W W') (hB : w.heap.size ≤ B) (hi : DivI w p N0 M1 N1 NR NQ G nb L d B1 R c1 cr ta tb k W) : DivI w p N0 M1 N1 NR NQ G nb L d B1 R c1 cr ta tb k W' := by
  obtain ⟨q, r, h1, ⟨b1, b2, b3, b4, b5⟩, ⟨o1, o2, o3⟩, hf, hfr⟩ := hi
  exact ⟨q, r, h1, ⟨h.blk b1, h.blk b2, h.blk b3, h.blk b4, h.blk b5⟩, ⟨h.own o1, h.own o2, h.own o3⟩, Still.fld h hf, h.fr hfr hB⟩
theorem DivI.row {w : World} {p N0 M1 N1 NR NQ G nb L d : Nat} {B1 R : Option Addr} {c1 cr : Nat} {ta tb : List UInt8} {k : Nat} {W : World} {g : Nat} (hi : DivI w p N0 M1 N1 NR NQ G nb L d B1 R c1 cr ta tb k W) (hR : R = some ⟨g, 0, none⟩) : RowX g 0 L W := by
  obtain ⟨q, r, h1, _, ⟨_, o2, _⟩, _⟩ := hi
  intro j hj
  have hj2 : j < r.length := by rw [h1.2.1]; exact hj
  obtain ⟨g', e, _, _, hc, _⟩ := o2.at_ (k := j) (by simpa using hj2)
  rw [hR] at e; injection e with e; injection e with e _
  subst e
  exact ⟨r[j], by rw [Nat.zero_add, hc, List.getElem_map]; rfl⟩

theorem run_max0 (L nb d : Nat) (hd : L - nb = d) (w : World) : (Builtin.max_ #[3, 3] 3 #[.int .i64 0, .int .i64 ((L : Int) - (nb : Int))]).run Try.prog w = .ok (.int .i64 (d : Int)) w := by
  subst hd
  rcases Nat.lt_or_ge nb L with h | h
  · have e : (0 : Int) < (L : Int) - (nb : Int) := by omega
    have e2 : (L : Int) - (nb : Int) = ((L - nb : Nat) : Int) := by omega
    simp [Builtin.max_, Builtin.max2, e]
    omega
  · have e : ¬ (0 : Int) < (L : Int) - (nb : Int) := by omega
    simp [Builtin.max_, Builtin.max2, e]
    omega
set_option maxRecDepth 100000 in
set_option maxHeartbeats 4000000 in
theorem div_some (w : World) (p : Nat) (hp : Fld w p) (A : Option Addr) (a : List UInt8) (n0 ca : Nat) (hn0 : n0 = a.length) (B : Option Addr) (b : List UInt8) (m0 cb : Nat) (hm0 : m0 = b.length) (hla : (a.length : Int) ≤ 1000) (hlb : (b.length : Int) ≤ 1000) (hca : a.length ≤ ca) (hcb : b.length ≤ cb) (hA : In w p A a) (hB : In w p B b) (hb : len b ≠ 0) :
    Calls Try.prog 14 #[fptr (some p), .slice A n0 ca, .slice B m0 cb] w (DivF w p a b) := by
  obtain ⟨i0, hi0, hz0, hz1, hz2⟩ := info_parts u8info
  subst hn0; subst hm0
  refine of_wide ?_
  refine callsIn_of_wp_marks Try.func14 rfl trivial ?_ rfl
  refine wpIn_wide.2 ?_
  simp only [Try.ntmps14, List.size_toArray, List.length_cons, List.length_nil, Nat.reduceAdd, Nat.reduceSub, Array.replicate_succ, Array.replicate_zero, List.push_toArray, List.append_toArray, List.nil_append, List.cons_append]
  have HA := Lib.hid hA
  have HB := Lib.hid hB
  have HP := Lib.hid hp
  have HPL := Lib.hid hp.lt
  have HL := Lib.hid (And.intro (And.intro hla hlb) (And.intro hca hcb))
  have hps : fptr (some p) = .pointer (some ⟨p, 0, none⟩) := rfl
  rw [hps]
  clear hA hB hp hps hca hcb
  obtain ⟨nb, hnb⟩ : ∃ nb, len b = nb + 1 := ⟨len b - 1, by omega⟩
  have HNB := Lib.hid hnb
  clear hb hnb
  go_wp2_with fail
  obtain ⟨wa, hwa⟩ : ∃ wa, wa = (w.alloc (.cells #[.pointer (some ⟨p, 0, none⟩)] 24)).alloc (.cells #[.slice B b.length cb] 22) := ⟨_, rfl⟩
  have aF : Blk wa w.heap.size 24 #[.pointer (some ⟨p, 0, none⟩)] := by rw [hwa]; exact (Blk.new w _ _).alloc _
  have aB : Blk wa (w.heap.size + 1) 22 #[.slice B b.length cb] := by
    rw [hwa]; have := Blk.new (w.alloc (.cells #[.pointer (some ⟨p, 0, none⟩)] 24)) 22 #[.slice B b.length cb]
    rwa [World.size_alloc] at this
  have ab : Below w.heap.size w wa := by rw [hwa]; exact ((Below.refl _ w).alloc (Nat.le_refl _) _).alloc (by simp) _
  have hsa : wa.heap.size = w.heap.size + 1 + 1 := by rw [hwa]; simp
  rw [← hwa]
  clear hwa
  generalize hM1 : w.heap.size + 1 = M1 at *
  have HSA := Lib.hid (And.intro hM1 hsa)
  clear hM1 hsa
  refine (trim_any wa B b b.length cb rfl (by have := HL.out; omega) HL.out.2.2 ((HB.out.1.below ab).up (by have := ab.size; omega))).mono ?_
  rintro e w1 ⟨B1, c1, rfl, ho1, hb1⟩
  rw [show (trim b).length = nb + 1 from HNB.out]
  have bF := aF.keep hb1
  have bB := aB.keep hb1
  have hc1 := one bB
  have hf1 := bB.frozen 0
  have HB1 := Lib.hid (And.intro (And.intro bF (bB.set_ 0 (.slice B1 (nb + 1) c1))) (And.intro ho1 (ab.trans (hb1.mono ab.size))))
  have HS1 := Lib.hid hb1.size
  have hnb : (nb : Int) + 1 ≤ 1000 := by
    have := len_le b
    have := HNB.out
    have := HL.out
    omega
  clear aF aB ab bF bB ho1 hb1
  go_wp2_with fail
  obtain ⟨w3, hw3⟩ : ∃ w3, w3 = (w1.setCell ⟨M1, 0, none⟩ (.slice B1 (nb + 1) c1)).alloc (.cells #[.int .i64 (nb : Int)] 3) := ⟨_, rfl⟩
  have cF : Blk w3 w.heap.size 24 #[.pointer (some ⟨p, 0, none⟩)] := by rw [hw3]; exact (HB1.out.1.1.far (by show M1 ≠ _; have := HSA.out; omega) _).alloc _
  have cB : Blk w3 M1 22 #[.slice B1 (nb + 1) c1] := by rw [hw3]; exact HB1.out.1.2.alloc _
  have cN : Blk w3 w1.heap.size 3 #[.int .i64 (nb : Int)] := by rw [hw3]; have := Blk.new (w1.setCell ⟨M1, 0, none⟩ (.slice B1 (nb + 1) c1)) 3 #[.int .i64 (nb : Int)]; rwa [World.size_setCell] at this
  have cO : Mem.Own w3 wa.heap.size 5 B1 c1 ((trim b).map u8v) := by
    rw [hw3]; exact (own_past HB1.out.2.1 (p := ⟨M1, 0, none⟩) (by show M1 < _; have := HSA.out; omega) _).alloc _
  have cb : Below w.heap.size w w3 := by rw [hw3]; exact (HB1.out.2.2.setCell (p := ⟨M1, 0, none⟩) (by show w.heap.size ≤ M1; have := HSA.out; omega) _).alloc (by rw [World.size_setCell]; exact HB1.out.2.2.size) _
  have hs3 : w3.heap.size = w1.heap.size + 1 := by rw [hw3]; simp
  rw [← hw3]
  clear hw3 hc1 hf1
  generalize hN1 : w1.heap.size = N1 at *
  have HS3 := Lib.hid (And.intro hN1 hs3)
  clear hN1 hs3
  refine (trim_any w3 A a a.length ca rfl (by have := HL.out; omega) HL.out.2.1 ((HA.out.1.below cb).up (by have := cb.size; omega))).mono ?_
  rintro e w4 ⟨R, cr, rfl, ho4, hb4⟩
  have hL1 : ((trim a).length : Int) ≤ 1000 := by
    have := trim_len a
    have := HL.out
    omega
  have HLA := Lib.hid (show len a = (trim a).length from rfl)
  obtain ⟨L, hL⟩ : ∃ L, (trim a).length = L := ⟨_, rfl⟩
  rw [hL] at hL1 ⊢
  have HLL := Lib.hid hL
  have hmx : max (0 : Int) ((L : Int) - (nb : Int)) = ((L - nb : Nat) : Int) := by omega
  have dF := cF.keep hb4
  have dB := cB.keep hb4
  have dN := cN.keep hb4
  have dO := cO.keep hb4
  have HW4 := Lib.hid (And.intro (And.intro dF (And.intro dB dN)) (And.intro (And.intro dO ho4) (And.intro (cb.trans (hb4.mono cb.size)) hb4.size)))
  have hcN := one (dN.alloc (.cells #[.slice R L cr] 22))
  clear cF cB cN cO cb ho4 hb4 dF dB dN dO hL
  have HMX := Lib.hid hmx
  clear hmx
  obtain ⟨d, hd⟩ : ∃ d, L - nb = d := ⟨_, rfl⟩
  have HD := Lib.hid hd
  have hdL : (d : Int) ≤ 1000 := by omega
  clear hd
  obtain ⟨w7, hw7⟩ : ∃ w7, w7 = ((w4.alloc (.cells #[.slice R L cr] 22)).alloc (.cells (Array.replicate d (.int .u8 0)) 5)).alloc (.cells #[.slice (some ⟨w4.heap.size + 1, 0, none⟩) d d] 22) := ⟨_, rfl⟩
  have hcN7 : (((w4.alloc (.cells #[.slice R L cr] 22)).alloc (.cells (Array.replicate d (.int .u8 0)) 5)).alloc (.cells #[.slice (some ⟨w4.heap.size + 1, 0, none⟩) d d] 22)).cell? ⟨N1, 0, none⟩ = some (.int .i64 (nb : Int)) := one (((HW4.out.1.2.2.alloc _).alloc _).alloc _)
  have HW7 := Lib.hid hw7
  clear hw7
  have hmaxr := run_max0 L nb d HD.out
  go_wp2_with ((with_reducible show wpList _ _ _ ((⟨some 28, _, _, _, _, _⟩ : Oper) :: _) _ _); refine wpList_mk rfl _ _ _ rfl 5 i0 1 (.int .u8 0) Try.underlying22 hi0 hz0 hz1 hz2 rfl _ d rfl rfl rfl (by omega) (by unfold maxLen; omega) d rfl ?_)
  rw [← HW7.out]
  refine (down_any w7 R L cr ((L : Int) - 1) (nb : Int)).mono ?_
  rintro e w8 ⟨rfl, hw8⟩
  have HW8 := Lib.hid hw8
  clear hw8 hcN7
  go_wp2_with fail
  refine (wpIn_wide (n := 5)).1 ?_
  have HS8 := Lib.hid (show w8.heap.size = w7.heap.size + 1 + 1 + 1 ∧ w7.heap.size = w4.heap.size + 1 + 1 + 1 ∧ N1 < w4.heap.size from ⟨by rw [HW8.out]; simp, by rw [HW7.out]; simp, HW4.out.1.2.2.lt⟩)
  have HB8 := Lib.hid (show w8.cell? ⟨w7.heap.size, 0, none⟩ = some (.slice R L cr) ∧ w8.cell? ⟨w7.heap.size + 1, 0, none⟩ = some (.int .i64 ((L : Int) - 1)) ∧ w8.cell? ⟨w7.heap.size + 1 + 1, 0, none⟩ = some (.int .i64 (nb : Int)) from by
    rw [HW8.out]
    refine ⟨one (((Blk.new w7 _ _).alloc _).alloc _), ?_, ?_⟩
    · have := (Blk.new (w7.alloc (.cells #[.slice R L cr] 22)) 3 #[.int .i64 ((L : Int) - 1)]).alloc (.cells #[.int .i64 (nb : Int)] 3)
      rw [World.size_alloc] at this
      exact one this
    · have := Blk.new ((w7.alloc (.cells #[.slice R L cr] 22)).alloc (.cells #[.int .i64 ((L : Int) - 1)] 3)) 3 #[.int .i64 (nb : Int)]
      rw [World.size_alloc, World.size_alloc] at this
      exact one this)
  have h78 : Below w7.heap.size w7 w8 := by rw [HW8.out]; exact ((nextA (Mem.start w7) _).alloc (by simp) _).alloc (by simp; omega) _
  have h47 : Below w4.heap.size w4 w7 := by rw [HW7.out]; exact ((nextA (Mem.start w4) _).alloc (by simp) _).alloc (by simp; omega) _
  have HD0 := Lib.hid (show DivI w p w.heap.size M1 N1 w4.heap.size (w4.heap.size + 1 + 1) (w4.heap.size + 1) nb L d B1 R c1 cr (trim a) (trim b) 0 w8 from by
    have k4 : ∀ {g T v}, Blk w4 g T #[v] → Blk w8 g T #[v] := fun h => (h.keep h47).keep h78
    refine ⟨List.replicate d 0, trim a, ?_, ⟨k4 HW4.out.1.1, k4 HW4.out.1.2.1, k4 HW4.out.1.2.2, ?_, ?_⟩, ⟨?_, ?_, ?_⟩, ?_, ?_⟩
    · have := DS.start (trim a) (trim b) nb
      rw [HLL.out, HD.out] at this
      exact this
    · refine Blk.keep ?_ h78
      rw [HW7.out]
      exact ((Blk.new w4 _ _).alloc _).alloc _
    · refine Blk.keep ?_ h78
      rw [HW7.out]
      have := Blk.new ((w4.alloc (.cells #[.slice R L cr] 22)).alloc (.cells (Array.replicate d (.int .u8 0)) 5)) 22 #[.slice (some ⟨w4.heap.size + 1, 0, none⟩) d d]
      rw [World.size_alloc, World.size_alloc] at this
      exact this
    · refine Mem.Own.keep ?_ h78
      rw [HW7.out]
      refine Mem.Own.alloc ?_ _
      have := own_made (base := w.heap.size) (w4.alloc (.cells #[.slice R L cr] 22)) (Array.replicate d (.int .u8 0)) 5 (by simp [maxLen]; omega) (by rw [World.size_alloc]; have := HW4.out.2.2.1.size; omega)
      rw [World.size_alloc, Array.toList_replicate, Array.size_replicate] at this
      rw [show (List.replicate d (0 : UInt8)).map u8v = List.replicate d (Value.int .u8 0) from by rw [List.map_replicate]; rfl]
      exact this
    · exact ((HW4.out.2.1.2.keep h47).keep h78).down (by have := HS3.out; have := HS1.out; have := HSA.out; omega)
    · exact ((HW4.out.2.1.1.keep h47).keep h78).down (by have := HSA.out; omega)
    · exact HP.out.keep (HW4.out.2.2.1.trans ((h47.trans (h78.mono h47.size)).mono HW4.out.2.2.1.size))
    · exact Fr.quiet (HW4.out.2.2.1.trans ((h47.trans (h78.mono h47.size)).mono HW4.out.2.2.1.size)))
  clear h78 h47
  obtain ⟨gR, hgR⟩ : ∃ gR, 0 < L → R = some ⟨gR, 0, none⟩ := by
    rcases HW4.out.2.1.2.form with ⟨h1, _, h2⟩ | ⟨g, h1, _⟩
    · refine ⟨0, fun h => ?_⟩
      have := HLL.out
      rw [List.map_eq_nil_iff] at h2
      rw [h2] at this; simp at this; omega
    · exact ⟨g, fun _ => h1⟩
  have HGR := Lib.hid hgR
  have HRB := Lib.hid (show ∀ k, R = some ⟨k, 0, none⟩ → w.heap.size ≤ k ∧ N1 < k ∧ k < w4.heap.size from fun k hk => by
    rcases HW4.out.2.1.2.form with ⟨h1, _⟩ | ⟨g, h1, h2, h3, _⟩
    · rw [hk] at h1; cases h1
    · rw [hk] at h1; injection h1 with h1; injection h1 with h1 _
      have := HS3.out; have := HS1.out; have := HSA.out
      omega)
  have HBB := Lib.hid (show ∀ k, B1 = some ⟨k, 0, none⟩ → M1 < k ∧ k < N1 from fun k hk => by
    rcases HB1.out.2.1.form with ⟨h1, _⟩ | ⟨g, h1, h2, h3, _⟩
    · rw [hk] at h1; cases h1
    · rw [hk] at h1; injection h1 with h1; injection h1 with h1 _
      have := HS3.out; have := HSA.out
      omega)
  have HTL := Lib.hid (show ∀ k, DivT p (w4.heap.size + 1) R k → k < w4.heap.size + 1 + 1 from fun k h => by
    have h0 := HPL.out; have h1 := HS8.out; have h2 := HS3.out; have h3 := HS1.out; have h4 := HSA.out
    rcases h with h | h | h
    · omega
    · omega
    · have := HRB.out k h; omega)
  clear hgR
  refine wpIn_rangeL (gf := 40) (lb := #[.pointer (some ⟨w7.heap.size + 1, 0, none⟩), .pointer (some ⟨w7.heap.size + 1 + 1, 0, none⟩), .pointer (some ⟨w7.heap.size, 0, none⟩)]) rfl (enters_of Try.func40 (by kernel_rfl) rfl)
    (down_seq w8 w7.heap.size (w7.heap.size + 1) (w7.heap.size + 1 + 1) gR 0 cr w8.heap.size L nb R (fun h => HGR.out (by omega)) (DivT p (w4.heap.size + 1) R) (by omega) (by omega) HB8.out.1 HB8.out.2.1 HB8.out.2.2 (by have h1 := HTL.out; have h2 := HS8.out; refine ⟨fun h => ?_, fun h => ?_, fun h => ?_⟩ <;> (have := h1 _ h; omega)) (by have := HS8.out; omega))
    (Nat.le_refl _) (Below.refl _ _) (fun _ => rfl)
    (fun pre W => DivI w p w.heap.size M1 N1 w4.heap.size (w4.heap.size + 1 + 1) (w4.heap.size + 1) nb L d B1 R c1 cr (trim a) (trim b) pre.length W)
    (fun c pre W => False)
    (fun pre W h j hj => DivI.row h (HGR.out (by omega)) j hj)
    (fun s W W' h hi => hi.still h (by have := HS8.out; have := HW4.out.2.2.1.size; omega))
    (fun c => abd_false)
    (fun pre x W W' h ⟨h1, h2, h3⟩ => ⟨h1, h2, h.cell h3⟩)
    HD0.out ?round ?done ?stop
  case round =>
    rintro lp pre ⟨i, c⟩ W hI hX
    gi_wp2
    clear hI hX
    refine ⟨trivial, ?_⟩
    rintro W ⟨q, r, hds, ⟨b1, b2, b3, b4, b5⟩, ⟨o1, o2, o3⟩, hf, hfr⟩ ⟨hx1, hx2, hx3⟩
    dsimp only at hx1 hx2 hx3 ⊢
    have hRs := HGR.out (by omega)
    have HIB := Lib.hid (And.intro hx1 hx2)
    obtain ⟨m, hm⟩ : ∃ m, i - nb = m := ⟨_, rfl⟩
    have hmi : (i : Int) - (nb : Int) = (m : Int) := by omega
    have hmd : (m : Int) < (d : Int) := by have := HD.out; omega
    have hmq : m < q.length := by have := hds.1; have := HD.out; omega
    have hir : i < r.length := by rw [hds.2.1]; omega
    obtain ⟨gb, hgb, hg1, hg2, hcb, _⟩ := o3.at_ (k := nb) (by rw [List.length_map]; have : (trim b).length = nb + 1 := HNB.out; omega)
    obtain ⟨gr, hgr, hg3, hg4, hcr, _⟩ := o2.at_ (k := i) (by simpa using hir)
    obtain ⟨gq, hgq, hg5, hg6, hcq, hzq, _⟩ := o1.at_ (k := m) (by simpa using hmq)
    obtain rfl : gR = gr := by rw [hRs] at hgr; injection hgr with hgr; injection hgr
    obtain rfl : w4.heap.size + 1 = gq := by injection hgq with hgq; injection hgq
    have hcb' : W.cell? ⟨gb, nb, none⟩ = some (.int .u8 ((cf (trim b) nb).toNat : Int)) := by
      rw [hcb, List.getElem_map, cf_lt (show nb < (trim b).length by have : (trim b).length = nb + 1 := HNB.out; omega)]; rfl
    have hcq' : W.cell? ⟨w4.heap.size + 1, m, none⟩ = some (.int .u8 ((cf q m).toNat : Int)) := by
      rw [hcq, List.getElem_map, cf_lt hmq]; rfl
    have HCR := Lib.hid (show cf r i = c from by
      have e1 : W.cell? ⟨gR, i, none⟩ = some (u8v r[i]) := by rw [hcr, List.getElem_map]
      rw [Nat.zero_add] at hx3
      rw [hx3] at e1
      injection e1 with e1
      injection e1 with _ e1
      rw [cf_lt hir]
      exact UInt8.toNat_inj.1 (by omega))
    have HDS := Lib.hid hds
    have hc1 := one b1
    have hc2 := one b2
    have hc3 := one b3
    have hc4 := one b4
    have hc5 := one b5
    have HBK := Lib.hid (And.intro b1 (And.intro b2 (And.intro b3 (And.intro b4 b5))))
    have HO := Lib.hid (And.intro o1 (And.intro o2 o3))
    have HF := Lib.hid (hf.keep (nextN (Mem.start W) 1))
    have HFR := Lib.hid hfr
    rw [hgb] at hc2
    rw [hRs] at hc4
    clear hcb hcq hcr hx1 hx2 hx3 hds b1 b2 b3 b4 b5 o1 o2 o3 hf hfr hgr hgq hg1 hg2 hg3 hg4 hg5 hg6 hir
    have HMQ := Lib.hid hmq
    clear hmq
    have hw1 : IntKind.i64.wrap (m : Int) = (m : Int) := IntWalk.i64_in _ (by omega)
    have hm0 : (0 : Int) ≤ (m : Int) := by omega
    have hnn : (nb : Int) < (nb : Int) + 1 := by omega
    have HNE := Lib.hid (show p < w.heap.size ∧ w.heap.size < M1 ∧ M1 < gb ∧ gb < N1 ∧ N1 < gR ∧ gR < w4.heap.size ∧ w4.heap.size < w4.heap.size + 1 from by
      have h0 := HPL.out; have h1 := HSA.out; have h2 := HBB.out gb hgb; have h3 := HRB.out gR hRs
      omega)
    have HTB := Lib.hid (show ∃ y, cf (trim b) nb = y from ⟨_, rfl⟩)
    obtain ⟨y, hy⟩ := HTB.out
    rw [hy] at hcb'
    obtain ⟨u, hu⟩ : ∃ u, cf q m = u := ⟨_, rfl⟩
    rw [hu] at hcq'
    have HY := Lib.hid (And.intro hy hu)
    have hcq := hcq'
    have hc6 := hcb'
    clear hy hu hcq' hcb' HTB
    have HM := Lib.hid hm
    clear hm
    generalize hG : w4.heap.size + 1 = G at *
    generalize hNQ : G + 1 = NQ at *
    have HGQ := Lib.hid (And.intro hG hNQ)
    clear hG hNQ
    gi_wp2
    refine wpIn_held (S := fun w' => w'.cell? ⟨w.heap.size, 0, none⟩ = some (.pointer (some ⟨p, 0, none⟩)) ∧ w'.cell? ⟨M1, 0, none⟩ = some (.slice (some ⟨gb, 0, none⟩) (nb + 1) c1) ∧ w'.cell? ⟨N1, 0, none⟩ = some (.int .i64 (nb : Int)) ∧ w'.cell? ⟨NQ, 0, none⟩ = some (.slice (some ⟨G, 0, none⟩) d d) ∧ w'.cell? ⟨gb, nb, none⟩ = some (.int .u8 (y.toNat : Int))) (by kernel_rfl) (by kernel_rfl) (by first | exact lets_ownPostG | exact lets_then lets_ownPostG | exact lets_inBlock lets_ownPostG | exact lets_then (lets_inBlock lets_ownPostG)) ?hs0 ?rg0
    case hs0 =>
      exact ⟨hc1, hc2, hc3, hc5, hc6⟩
    case rg0 =>
    intro hHeld
    refine wpAnyH_take (i := 0) (oi := { dst := some 38, op := Op.load 22 (Operand.tmp 11), type := 22, pos := _, after := #[], guard := none }) (v := ?_) rfl (by kernel_rfl) (by kernel_rfl) (by kernel_rfl) (fun _ _ _ h => h) (Or.inl ⟨by rfl, ?_⟩) (by assumption) ?_
    rotate_left
    · intro w hSw
      try dsimp only at hSw
      go_simp
      try with_reducible rfl
    try simp only [Act.put, List.setIfInBounds_toArray, List.set_cons_zero, List.set_cons_succ]
    refine wpAnyH_take (i := 1) (oi := { dst := some 39, op := Op.move (Operand.tmp 12), type := 3, pos := _, after := #[], guard := none }) (v := ?_) rfl (by kernel_rfl) (by kernel_rfl) (by kernel_rfl) (fun _ _ _ h => h) (Or.inl ⟨by rfl, ?_⟩) (by assumption) ?_
    rotate_left
    · intro w hSw
      try dsimp only at hSw
      go_simp
      try with_reducible rfl
    try simp only [Act.put, List.setIfInBounds_toArray, List.set_cons_zero, List.set_cons_succ]
    refine wpAnyH_take (i := 2) (oi := { dst := some 40, op := Op.load 3 (Operand.tmp 9), type := 3, pos := _, after := #[], guard := none }) (v := ?_) rfl (by kernel_rfl) (by kernel_rfl) (by kernel_rfl) (fun _ _ _ h => h) (Or.inl ⟨by rfl, ?_⟩) (by assumption) ?_
    rotate_left
    · intro w hSw
      try dsimp only at hSw
      go_simp
      try with_reducible rfl
    try simp only [Act.put, List.setIfInBounds_toArray, List.set_cons_zero, List.set_cons_succ]
    refine wpAnyH_take (i := 3) (oi := { dst := some 41, op := Op.binOp BinOp.sub 3 (Operand.tmp 39) (Operand.tmp 40) 3, type := 3, pos := _, after := #[{ on := 1, ground := Ground.data }, { on := 2, ground := Ground.data }], guard := none }) (v := ?_) rfl (by kernel_rfl) (by kernel_rfl) (by kernel_rfl) (fun _ _ _ h => h) (Or.inl ⟨by rfl, ?_⟩) (by assumption) ?_
    rotate_left
    · intro w hSw
      try dsimp only at hSw
      go_simp
      try with_reducible rfl
    try simp only [Act.put, List.setIfInBounds_toArray, List.set_cons_zero, List.set_cons_succ]
    refine wpAnyH_take (i := 4) (oi := { dst := some 42, op := Op.load 24 (Operand.tmp 3), type := 24, pos := _, after := #[], guard := none }) (v := ?_) rfl (by kernel_rfl) (by kernel_rfl) (by kernel_rfl) (fun _ _ _ h => h) (Or.inl ⟨by rfl, ?_⟩) (by assumption) ?_
    rotate_left
    · intro w hSw
      try dsimp only at hSw
      go_simp
      try with_reducible rfl
    try simp only [Act.put, List.setIfInBounds_toArray, List.set_cons_zero, List.set_cons_succ]
    refine wpAnyH_take (i := 5) (oi := { dst := some 43, op := Op.move (Operand.tmp 13), type := 5, pos := _, after := #[], guard := none }) (v := ?_) rfl (by kernel_rfl) (by kernel_rfl) (by kernel_rfl) (fun _ _ _ h => h) (Or.inl ⟨by rfl, ?_⟩) (by assumption) ?_
    rotate_left
    · intro w hSw
      try dsimp only at hSw
      go_simp
      try with_reducible rfl
    try simp only [Act.put, List.setIfInBounds_toArray, List.set_cons_zero, List.set_cons_succ]
    refine wpAnyH_take (i := 6) (oi := { dst := some 44, op := Op.load 22 (Operand.tmp 5), type := 22, pos := _, after := #[], guard := none }) (v := ?_) rfl (by kernel_rfl) (by kernel_rfl) (by kernel_rfl) (fun _ _ _ h => h) (Or.inl ⟨by rfl, ?_⟩) (by assumption) ?_
    rotate_left
    · intro w hSw
      try dsimp only at hSw
      go_simp
      try with_reducible rfl
    try simp only [Act.put, List.setIfInBounds_toArray, List.set_cons_zero, List.set_cons_succ]
    refine wpAnyH_take (i := 7) (oi := { dst := some 45, op := Op.load 3 (Operand.tmp 9), type := 3, pos := _, after := #[], guard := none }) (v := ?_) rfl (by kernel_rfl) (by kernel_rfl) (by kernel_rfl) (fun _ _ _ h => h) (Or.inl ⟨by rfl, ?_⟩) (by assumption) ?_
    rotate_left
    · intro w hSw
      try dsimp only at hSw
      go_simp
      try with_reducible rfl
    try simp only [Act.put, List.setIfInBounds_toArray, List.set_cons_zero, List.set_cons_succ]
    refine wpAnyH_take (i := 8) (oi := { dst := some 46, op := Op.indexAddr 22 (Operand.tmp 44) (Operand.tmp 45), type := 0, pos := _, after := #[{ on := 6, ground := Ground.data }, { on := 7, ground := Ground.data }], guard := none }) (v := ?_) rfl (by kernel_rfl) (by kernel_rfl) (by kernel_rfl) (fun _ _ _ h => h) (Or.inl ⟨by rfl, ?_⟩) (by assumption) ?_
    rotate_left
    · intro w hSw
      try dsimp only at hSw
      go_simp
      try with_reducible rfl
    try simp only [Act.put, List.setIfInBounds_toArray, List.set_cons_zero, List.set_cons_succ]
    refine wpAnyH_take (i := 9) (oi := { dst := some 47, op := Op.load 5 (Operand.tmp 46), type := 5, pos := _, after := #[{ on := 8, ground := Ground.data }], guard := none }) (v := ?_) rfl (by kernel_rfl) (by kernel_rfl) (by kernel_rfl) (fun _ _ _ h => h) (Or.inl ⟨by rfl, ?_⟩) (by assumption) ?_
    rotate_left
    · intro w hSw
      try dsimp only at hSw
      go_simp
      try with_reducible rfl
    try simp only [Act.put, List.setIfInBounds_toArray, List.set_cons_zero, List.set_cons_succ]
    refine wpAnyH_ready (rs := [10]) (by kernel_rfl) (by simp) ?_
    refine AllReadyH.cons (o := { dst := some 48, op := Op.call { callee := Callee.value (Operand.func 33), args := #[Operand.tmp 42, Operand.tmp 43, Operand.tmp 47], argTypes := #[24, 5, 5] }, type := 65, pos := _, after := #[{ on := 4, ground := Ground.data }, { on := 5, ground := Ground.data }, { on := 9, ground := Ground.data }], guard := none }) rfl (fun K hK => ?_) AllReadyH.nil
    go_simp
    refine (div_any _ (some p) (FldR.some HF.out) _ _ c y rfl rfl).mono ?_
    rintro e w1 ⟨rfl, hF1, hf1⟩
    have HF1 := Lib.hid (And.intro hF1 hf1)
    have hq1 : w1.cell? ⟨G, m, none⟩ = some (.int .u8 (u.toNat : Int)) := cellFr hf1 hcq (fun h => by injection h with h; have := HNE.out; have := HGQ.out; omega)
    have hz1 : w1.frozen? ⟨G, m, none⟩ = false := (frozenFr hf1 hcq (fun h => by injection h with h; have := HNE.out; have := HGQ.out; omega)).trans hzq
    clear hF1 hf1
    try dsimp only
    refine hK.out _ _ ?_ (fun hHeld => ?_)
    · try dsimp only
      obtain ⟨h1, h2, h3, h4, h5⟩ := hHeld
      refine ⟨cellFr HF1.out.2 h1 (fun h => ?_), cellFr HF1.out.2 h2 (fun h => ?_), cellFr HF1.out.2 h3 (fun h => ?_), cellFr HF1.out.2 h4 (fun h => ?_), cellFr HF1.out.2 h5 (fun h => ?_)⟩ <;> (injection h with h; have := HNE.out; have := HGQ.out; omega)
    clear hK K
    try simp only [Act.put, List.setIfInBounds_toArray, List.set_cons_zero, List.set_cons_succ]
    refine wpAnyH_take (i := 11) (oi := { dst := some 37, op := Op.move (Operand.tmp 48), type := 65, pos := _, after := #[{ on := 10, ground := Ground.data }], guard := none }) (v := ?_) rfl (by kernel_rfl) (by kernel_rfl) (by kernel_rfl) (fun _ _ _ h => h) (Or.inl ⟨by rfl, ?_⟩) (by assumption) ?_
    rotate_left
    · intro w hSw
      try dsimp only at hSw
      go_simp
      try with_reducible rfl
    try simp only [Act.put, List.setIfInBounds_toArray, List.set_cons_zero, List.set_cons_succ]
    refine wpAnyH_take (i := 12) (oi := { dst := some 49, op := Op.extract (Operand.tmp 37) 0, type := 5, pos := _, after := #[{ on := 11, ground := Ground.data }], guard := none }) (v := ?_) rfl (by kernel_rfl) (by kernel_rfl) (by kernel_rfl) (fun _ _ _ h => h) (Or.inl ⟨by rfl, ?_⟩) (by assumption) ?_
    rotate_left
    · intro w hSw
      try dsimp only at hSw
      go_simp
      try with_reducible rfl
    try simp only [Act.put, List.setIfInBounds_toArray, List.set_cons_zero, List.set_cons_succ]
    refine wpAnyH_take (i := 13) (oi := { dst := some 50, op := Op.extract (Operand.tmp 37) 1, type := 4, pos := _, after := #[{ on := 11, ground := Ground.data }, { on := 15, ground := Ground.gcOnly Departure.lateStores }], guard := none }) (v := ?_) rfl (by kernel_rfl) (by kernel_rfl) (by kernel_rfl) (fun _ _ _ h => h) (Or.inl ⟨by rfl, ?_⟩) (by assumption) ?_
    rotate_left
    · intro w hSw
      try dsimp only at hSw
      go_simp
      try with_reducible rfl
    try simp only [Act.put, List.setIfInBounds_toArray, List.set_cons_zero, List.set_cons_succ]
    refine wpAnyH_take (i := 14) (oi := { dst := some 51, op := Op.indexAddr 22 (Operand.tmp 38) (Operand.tmp 41), type := 0, pos := _, after := #[{ on := 0, ground := Ground.data }, { on := 3, ground := Ground.data }, { on := 0, ground := Ground.phase }, { on := 1, ground := Ground.phase }, { on := 2, ground := Ground.phase }, { on := 3, ground := Ground.phase }, { on := 4, ground := Ground.phase }, { on := 5, ground := Ground.phase }, { on := 6, ground := Ground.phase }, { on := 7, ground := Ground.phase }, { on := 8, ground := Ground.phase }, { on := 9, ground := Ground.phase }, { on := 10, ground := Ground.phase }, { on := 11, ground := Ground.phase }, { on := 12, ground := Ground.phase }, { on := 13, ground := Ground.textOnly Departure.lateStores }], guard := none }) (v := ?_) rfl (by kernel_rfl) (by kernel_rfl) (by kernel_rfl) (fun _ _ _ h => h) (Or.inl ⟨by rfl, ?_⟩) (by assumption) ?_
    rotate_left
    · intro w hSw
      try dsimp only at hSw
      go_simp
      try with_reducible rfl
    try simp only [Act.put, List.setIfInBounds_toArray, List.set_cons_zero, List.set_cons_succ]
    refine wpAnyH_ready (rs := [15]) (by kernel_rfl) (by simp) ?_
    refine AllReadyH.cons (o := { dst := none, op := Op.store 5 (Operand.tmp 51) (Operand.tmp 49), type := 0, pos := _, after := #[{ on := 14, ground := Ground.data }, { on := 12, ground := Ground.data }, { on := 10, ground := Ground.chain }, { on := 0, ground := Ground.phase }, { on := 1, ground := Ground.phase }, { on := 2, ground := Ground.phase }, { on := 3, ground := Ground.phase }, { on := 4, ground := Ground.phase }, { on := 5, ground := Ground.phase }, { on := 6, ground := Ground.phase }, { on := 7, ground := Ground.phase }, { on := 8, ground := Ground.phase }, { on := 9, ground := Ground.phase }, { on := 10, ground := Ground.phase }, { on := 11, ground := Ground.phase }, { on := 12, ground := Ground.phase }, { on := 13, ground := Ground.textOnly Departure.lateStores }], guard := none }) rfl (fun K hK => ?_) AllReadyH.nil
    go_simp
    try dsimp only
    refine hK.out _ _ ?_ (fun hHeld => ?_)
    · try dsimp only
      obtain ⟨h1, h2, h3, h4, h5⟩ := hHeld
      have hs := (Fr.refl (fun k => k = G) w1).setCell (p := ⟨G, m, none⟩) (fun _ => rfl) (.int .u8 ((div c y).toNat : Int))
      refine ⟨cellFr hs h1 (fun h => ?_), cellFr hs h2 (fun h => ?_), cellFr hs h3 (fun h => ?_), cellFr hs h4 (fun h => ?_), cellFr hs h5 (fun h => ?_)⟩ <;> (have := HNE.out; have := HGQ.out; omega)
    clear hK K
    try simp only [Act.put, List.setIfInBounds_toArray, List.set_cons_zero, List.set_cons_succ]
    refine wpAnyH_done (by kernel_rfl) ?_ _
    gi_wp2
    have HS1 := Lib.hid ((Fr.refl (fun k => k = G) w1).setCell (p := ⟨G, m, none⟩) (fun _ => rfl) (.int .u8 ((div c y).toNat : Int)))
    have HO2 := Lib.hid (own_set ((HO.out.1.drewN 1).fr HF1.out.2 (fun g hg h => by simp at hg h; have := HNE.out; have := HGQ.out; omega)) HMQ.out _ (div c y) rfl)
    have kk : ∀ {k o v}, W.cell? ⟨k, o, none⟩ = some v → p ≠ k → k ≠ G → (w1.setCell ⟨G, m, none⟩ (.int .u8 ((div c y).toNat : Int))).cell? ⟨k, o, none⟩ = some v := fun h h1 h2 => cellFr HS1.out (cellFr HF1.out.2 h (fun e => h1 (by injection e))) h2
    have hne := HNE.out
    have hgq := HGQ.out
    have HNE2 := Lib.hid (show p ≠ w.heap.size ∧ p ≠ M1 ∧ p ≠ N1 ∧ p ≠ w4.heap.size ∧ p ≠ G ∧ p ≠ NQ ∧ p ≠ gb ∧ p ≠ gR ∧ w.heap.size ≠ G ∧ M1 ≠ G ∧ N1 ≠ G ∧ w4.heap.size ≠ G ∧ NQ ≠ G ∧ gb ≠ G ∧ gR ≠ G from by omega)
    obtain ⟨n1, n2, n3, n4, n5, n6, n7, n8, n9, n10, n11, n12, n13, n14, n15⟩ := HNE2.out
    have hd1 := kk hc1 n1 n9
    have hd2 := kk hc2 n2 n10
    have hd3 := kk hc3 n3 n11
    have hd4 := kk hc4 n4 n12
    have hd5 := kk hc5 n6 n13
    have hd6 : (w1.setCell ⟨G, m, none⟩ (.int .u8 ((div c y).toNat : Int))).cell? ⟨G, m, none⟩ = some (.int .u8 ((div c y).toNat : Int)) := World.cell?_setCell_same' _ _ _ (by rw [hq1]; rfl)
    have kO : ∀ {k cs T}, Blk W k T cs → p ≠ k → k ≠ G → Blk (w1.setCell ⟨G, m, none⟩ (.int .u8 ((div c y).toNat : Int))) k T cs := fun h h1 h2 => (h.fr ((Fr.refl (fun k => k = p) W).drewN 1) (fun e => h1 e.symm) |>.fr HF1.out.2 (fun e => h1 (by injection e))).fr HS1.out h2
    have HBK2 := Lib.hid (And.intro (kO HBK.out.1 n1 n9) (And.intro (kO HBK.out.2.1 n2 n10) (And.intro (kO HBK.out.2.2.1 n3 n11) (And.intro (kO HBK.out.2.2.2.1 n4 n12) (kO HBK.out.2.2.2.2 n6 n13)))))
    have HO3 := Lib.hid (((HO.out.2.1.drewN 1).fr HF1.out.2 (fun g hg h => by have e1 : gR = g := (by (rw [hRs] at hg; injection hg with hg; injection hg)); have e2 : p = g := (by injection h); omega)).fr HS1.out (fun g hg h => by have e1 : gR = g := (by (rw [hRs] at hg; injection hg with hg; injection hg)); omega))
    have HO4 := Lib.hid (((HO.out.2.2.drewN 1).fr HF1.out.2 (fun g hg h => by have e1 : gb = g := (by (rw [hgb] at hg; injection hg with hg; injection hg)); have e2 : p = g := (by injection h); omega)).fr HS1.out (fun g hg h => by have e1 : gb = g := (by (rw [hgb] at hg; injection hg with hg; injection hg)); omega))
    have HF2 := Lib.hid ((HF1.out.1 p rfl).fr HS1.out n5)
    have HMO := Lib.hid (more_any (w1.setCell ⟨G, m, none⟩ (.int .u8 ((div c y).toNat : Int))).drew p w.heap.size (HF2.out.keep (nextN (Mem.start _) 1)) R cr r (HO3.out.drewN 1) B1 c1 (trim b) (In.own (HO4.out.drewN 1) (HF2.out.keep (nextN (Mem.start _) 1))) (fun g o e _ e2 => by rw [hgb] at e; rw [hRs] at e2; simp at e e2; omega) (div c y) m (by
      have := HDS.out.2.1; have h2 : (trim b).length = nb + 1 := HNB.out; have := HM.out; have := HIB.out; omega) (by have := HDS.out.2.1; omega))
    rw [show (trim b).length = nb + 1 from HNB.out, HDS.out.2.1] at HMO
    have HRS := Lib.hid hRs
    have HGB := Lib.hid hgb
    rw [hRs] at HMO
    rw [hgb] at HMO
    clear hne hgq n1 n2 n3 n4 n5 n6 n7 n8 n9 n10 n11 n12 n13 n14 n15 kk kO hc1 hc2 hc3 hc4 hc5 hc6 hcq hzq hq1 hz1 hHeld hRs hgb
    refine wpIn_held (S := fun w' => w'.cell? ⟨w.heap.size, 0, none⟩ = some (.pointer (some ⟨p, 0, none⟩)) ∧ w'.cell? ⟨M1, 0, none⟩ = some (.slice (some ⟨gb, 0, none⟩) (nb + 1) c1) ∧ w'.cell? ⟨N1, 0, none⟩ = some (.int .i64 (nb : Int)) ∧ w'.cell? ⟨NQ, 0, none⟩ = some (.slice (some ⟨G, 0, none⟩) d d) ∧ w'.cell? ⟨w4.heap.size, 0, none⟩ = some (.slice (some ⟨gR, 0, none⟩) L cr) ∧ w'.cell? ⟨G, m, none⟩ = some (.int .u8 ((div c y).toNat : Int))) (by kernel_rfl) (by kernel_rfl) (by first | exact lets_ownPostG | exact lets_then lets_ownPostG | exact lets_inBlock lets_ownPostG | exact lets_then (lets_inBlock lets_ownPostG)) ?hs0 ?rg0
    case hs0 =>
      exact ⟨hd1, hd2, hd3, hd5, hd4, hd6⟩
    case rg0 =>
    intro hHeld
    refine wpAnyH_take (i := 0) (oi := { dst := some 52, op := Op.load 24 (Operand.tmp 3), type := 24, pos := _, after := #[], guard := none }) (v := ?_) rfl (by kernel_rfl) (by kernel_rfl) (by kernel_rfl) (fun _ _ _ h => h) (Or.inl ⟨by rfl, ?_⟩) (by assumption) ?_
    rotate_left
    · intro w hSw
      try dsimp only at hSw
      go_simp
      try with_reducible rfl
    try simp only [Act.put, List.setIfInBounds_toArray, List.set_cons_zero, List.set_cons_succ]
    refine wpAnyH_take (i := 1) (oi := { dst := some 53, op := Op.load 22 (Operand.tmp 10), type := 22, pos := _, after := #[], guard := none }) (v := ?_) rfl (by kernel_rfl) (by kernel_rfl) (by kernel_rfl) (fun _ _ _ h => h) (Or.inl ⟨by rfl, ?_⟩) (by assumption) ?_
    rotate_left
    · intro w hSw
      try dsimp only at hSw
      go_simp
      try with_reducible rfl
    try simp only [Act.put, List.setIfInBounds_toArray, List.set_cons_zero, List.set_cons_succ]
    refine wpAnyH_take (i := 2) (oi := { dst := some 54, op := Op.load 22 (Operand.tmp 5), type := 22, pos := _, after := #[], guard := none }) (v := ?_) rfl (by kernel_rfl) (by kernel_rfl) (by kernel_rfl) (fun _ _ _ h => h) (Or.inl ⟨by rfl, ?_⟩) (by assumption) ?_
    rotate_left
    · intro w hSw
      try dsimp only at hSw
      go_simp
      try with_reducible rfl
    try simp only [Act.put, List.setIfInBounds_toArray, List.set_cons_zero, List.set_cons_succ]
    refine wpAnyH_take (i := 3) (oi := { dst := some 55, op := Op.load 22 (Operand.tmp 11), type := 22, pos := _, after := #[], guard := none }) (v := ?_) rfl (by kernel_rfl) (by kernel_rfl) (by kernel_rfl) (fun _ _ _ h => h) (Or.inl ⟨by rfl, ?_⟩) (by assumption) ?_
    rotate_left
    · intro w hSw
      try dsimp only at hSw
      go_simp
      try with_reducible rfl
    try simp only [Act.put, List.setIfInBounds_toArray, List.set_cons_zero, List.set_cons_succ]
    refine wpAnyH_take (i := 4) (oi := { dst := some 56, op := Op.move (Operand.tmp 12), type := 3, pos := _, after := #[], guard := none }) (v := ?_) rfl (by kernel_rfl) (by kernel_rfl) (by kernel_rfl) (fun _ _ _ h => h) (Or.inl ⟨by rfl, ?_⟩) (by assumption) ?_
    rotate_left
    · intro w hSw
      try dsimp only at hSw
      go_simp
      try with_reducible rfl
    try simp only [Act.put, List.setIfInBounds_toArray, List.set_cons_zero, List.set_cons_succ]
    refine wpAnyH_take (i := 5) (oi := { dst := some 57, op := Op.load 3 (Operand.tmp 9), type := 3, pos := _, after := #[], guard := none }) (v := ?_) rfl (by kernel_rfl) (by kernel_rfl) (by kernel_rfl) (fun _ _ _ h => h) (Or.inl ⟨by rfl, ?_⟩) (by assumption) ?_
    rotate_left
    · intro w hSw
      try dsimp only at hSw
      go_simp
      try with_reducible rfl
    try simp only [Act.put, List.setIfInBounds_toArray, List.set_cons_zero, List.set_cons_succ]
    refine wpAnyH_take (i := 6) (oi := { dst := some 58, op := Op.binOp BinOp.sub 3 (Operand.tmp 56) (Operand.tmp 57) 3, type := 3, pos := _, after := #[{ on := 4, ground := Ground.data }, { on := 5, ground := Ground.data }], guard := none }) (v := ?_) rfl (by kernel_rfl) (by kernel_rfl) (by kernel_rfl) (fun _ _ _ h => h) (Or.inl ⟨by rfl, ?_⟩) (by assumption) ?_
    rotate_left
    · intro w hSw
      try dsimp only at hSw
      go_simp
      try with_reducible rfl
    try simp only [Act.put, List.setIfInBounds_toArray, List.set_cons_zero, List.set_cons_succ]
    refine wpAnyH_take (i := 7) (oi := { dst := some 59, op := Op.indexAddr 22 (Operand.tmp 55) (Operand.tmp 58), type := 0, pos := _, after := #[{ on := 3, ground := Ground.data }, { on := 6, ground := Ground.data }], guard := none }) (v := ?_) rfl (by kernel_rfl) (by kernel_rfl) (by kernel_rfl) (fun _ _ _ h => h) (Or.inl ⟨by rfl, ?_⟩) (by assumption) ?_
    rotate_left
    · intro w hSw
      try dsimp only at hSw
      go_simp
      try with_reducible rfl
    try simp only [Act.put, List.setIfInBounds_toArray, List.set_cons_zero, List.set_cons_succ]
    refine wpAnyH_take (i := 8) (oi := { dst := some 60, op := Op.load 5 (Operand.tmp 59), type := 5, pos := _, after := #[{ on := 7, ground := Ground.data }], guard := none }) (v := ?_) rfl (by kernel_rfl) (by kernel_rfl) (by kernel_rfl) (fun _ _ _ h => h) (Or.inl ⟨by rfl, ?_⟩) (by assumption) ?_
    rotate_left
    · intro w hSw
      try dsimp only at hSw
      go_simp
      try with_reducible rfl
    try simp only [Act.put, List.setIfInBounds_toArray, List.set_cons_zero, List.set_cons_succ]
    refine wpAnyH_take (i := 9) (oi := { dst := some 61, op := Op.move (Operand.tmp 12), type := 3, pos := _, after := #[], guard := none }) (v := ?_) rfl (by kernel_rfl) (by kernel_rfl) (by kernel_rfl) (fun _ _ _ h => h) (Or.inl ⟨by rfl, ?_⟩) (by assumption) ?_
    rotate_left
    · intro w hSw
      try dsimp only at hSw
      go_simp
      try with_reducible rfl
    try simp only [Act.put, List.setIfInBounds_toArray, List.set_cons_zero, List.set_cons_succ]
    refine wpAnyH_take (i := 10) (oi := { dst := some 62, op := Op.load 3 (Operand.tmp 9), type := 3, pos := _, after := #[], guard := none }) (v := ?_) rfl (by kernel_rfl) (by kernel_rfl) (by kernel_rfl) (fun _ _ _ h => h) (Or.inl ⟨by rfl, ?_⟩) (by assumption) ?_
    rotate_left
    · intro w hSw
      try dsimp only at hSw
      go_simp
      try with_reducible rfl
    try simp only [Act.put, List.setIfInBounds_toArray, List.set_cons_zero, List.set_cons_succ]
    refine wpAnyH_take (i := 11) (oi := { dst := some 63, op := Op.binOp BinOp.sub 3 (Operand.tmp 61) (Operand.tmp 62) 3, type := 3, pos := _, after := #[{ on := 9, ground := Ground.data }, { on := 10, ground := Ground.data }], guard := none }) (v := ?_) rfl (by kernel_rfl) (by kernel_rfl) (by kernel_rfl) (fun _ _ _ h => h) (Or.inl ⟨by rfl, ?_⟩) (by assumption) ?_
    rotate_left
    · intro w hSw
      try dsimp only at hSw
      go_simp
      try with_reducible rfl
    try simp only [Act.put, List.setIfInBounds_toArray, List.set_cons_zero, List.set_cons_succ]
    refine wpAnyH_ready (rs := [12]) (by kernel_rfl) (by simp) ?_
    refine AllReadyH.cons (o := { dst := some 64, op := Op.call { callee := Callee.value (Operand.func 34), args := #[Operand.tmp 52, Operand.tmp 53, Operand.tmp 54, Operand.tmp 60, Operand.tmp 63], argTypes := #[24, 22, 22, 5, 3] }, type := 0, pos := _, after := #[{ on := 0, ground := Ground.data }, { on := 1, ground := Ground.data }, { on := 2, ground := Ground.data }, { on := 8, ground := Ground.data }, { on := 11, ground := Ground.data }], guard := none }) rfl (fun K hK => ?_) AllReadyH.nil
    go_simp
    refine HMO.out.mono ?_
    rintro e w3 ⟨tt, rfl, ht1, ht2, ht3, ht4, ht5⟩
    have HT := Lib.hid (And.intro (And.intro ht1 ht2) (And.intro ht3 (And.intro ht4 ht5)))
    clear ht1 ht2 ht3 ht4 ht5
    try dsimp only
    refine hK.out _ _ ?_ (fun hHeld => ?_)
    · try dsimp only
      obtain ⟨h1, h2, h3, h4, h5, h6⟩ := hHeld
      exact ⟨cellFr HT.out.2.2.2 h1 (fun h => h.elim (fun h => by have := HNE.out; have := HGQ.out; omega) (fun h => by have := HNE.out; have := HGQ.out; simp at h <;> omega)), cellFr HT.out.2.2.2 h2 (fun h => h.elim (fun h => by have := HNE.out; have := HGQ.out; omega) (fun h => by have := HNE.out; have := HGQ.out; simp at h <;> omega)), cellFr HT.out.2.2.2 h3 (fun h => h.elim (fun h => by have := HNE.out; have := HGQ.out; omega) (fun h => by have := HNE.out; have := HGQ.out; simp at h <;> omega)), cellFr HT.out.2.2.2 h4 (fun h => h.elim (fun h => by have := HNE.out; have := HGQ.out; omega) (fun h => by have := HNE.out; have := HGQ.out; simp at h <;> omega)), cellFr HT.out.2.2.2 h5 (fun h => h.elim (fun h => by have := HNE.out; have := HGQ.out; omega) (fun h => by have := HNE.out; have := HGQ.out; simp at h <;> omega)), cellFr HT.out.2.2.2 h6 (fun h => h.elim (fun h => by have := HNE.out; have := HGQ.out; omega) (fun h => by have := HNE.out; have := HGQ.out; simp at h <;> omega))⟩
    clear hK K
    try simp only [Act.put, List.setIfInBounds_toArray, List.set_cons_zero, List.set_cons_succ]
    refine wpAnyH_done (by kernel_rfl) ?_ _
    gi_wp2
    have HFW := Lib.hid (show Fr (DivT p G R) W w3 from by
      have f1 : Fr (DivT p G R) W w1 := ((Fr.refl (fun k => k = p) W).drewN 1).trans HF1.out.2 (fun k _ h => by injection h with h; exact h.symm) |>.mono (fun k _ h => .inl h)
      have f2 := f1.trans HS1.out (fun k _ h => .inr (.inl h))
      refine (f2.drewN 1).trans HT.out.2.2.2 (fun k _ h => h.elim (fun h => .inl h) (fun h => .inr (.inr ?_)))
      rw [HRS.out]; exact h)
    have hb : ∀ k, DivT p G R k → k < w8.heap.size := fun k h => by have := HTL.out k h; have := HS8.out; omega
    refine ⟨keepsFrom_of_fr HFW.out (fun k h _ => hb k h), HFW.out.mono (fun k _ h => .inl h), q.set m (div c y), tt, ?_, ?_, ?_, HT.out.2.2.1, ?_⟩
    · have := DS.step HDS.out (show len (trim b) = nb + 1 from by rw [len, trim_trim]; exact HNB.out) HIB.out.1 HIB.out.2 (r' := tt) HT.out.1.1 (by
        rw [HCR.out, HY.out.1, HM.out]; exact HT.out.1.2)
      rw [HCR.out, HY.out.1, HM.out] at this
      rw [List.length_append]; exact this
    · have kT : ∀ {k cs T}, Blk (w1.setCell ⟨G, m, none⟩ (.int .u8 ((div c y).toNat : Int))) k T cs → k ≠ p → gR ≠ k → Blk w3 k T cs := fun h h1 h2 => (h.fr ((Fr.refl (fun k => k = p) _).drewN 1) h1).fr HT.out.2.2.2 (fun e => e.elim h1 (fun e => h2 (by injection e with e; injection e)))
      have := HNE.out; have := HGQ.out
      exact ⟨kT HBK2.out.1 (by omega) (by omega), kT HBK2.out.2.1 (by omega) (by omega), kT HBK2.out.2.2.1 (by omega) (by omega), kT HBK2.out.2.2.2.1 (by omega) (by omega), kT HBK2.out.2.2.2.2 (by omega) (by omega)⟩
    · have h1 := HNE.out; have h2 := HGQ.out
      refine ⟨(HO2.out.drewN 1).fr HT.out.2.2.2 (fun g hg e => ?_), by rw [HRS.out]; exact HT.out.2.1, (HO4.out.drewN 1).fr HT.out.2.2.2 (fun g hg e => ?_)⟩
      · injection hg with hg; injection hg with hg _
        exact e.elim (fun e => by omega) (fun e => by injection e with e; injection e with e _; omega)
      · rw [HGB.out] at hg; injection hg with hg; injection hg with hg _
        exact e.elim (fun e => by omega) (fun e => by injection e with e; injection e with e _; omega)
    · refine HFR.out.trans HFW.out (fun k hk h => ?_)
      rcases h with h | h | h
      · exact h
      · have := HNE.out; omega
      · have := HRB.out k h; omega
  case done =>
    rintro D ys W hD hys ⟨q, r, hds, ⟨b1, b2, b3, b4, b5⟩, ⟨o1, o2, o3⟩, hf, hfr⟩ hK
    generalize hG : w4.heap.size + 1 = G at *
    generalize hNQ : G + 1 = NQ at *
    have hc4 := one b4
    have hc5 := one b5
    have HDS := Lib.hid (show q.length = d ∧ r.length = L ∧ DivOk (trim a) (trim b) q r from ⟨by rw [hds.1]; exact HD.out, hds.2.1, hds.done (show len (trim b) = nb + 1 from by rw [len, trim_trim]; exact HNB.out) hys⟩)
    rw [show q.length = d ∧ r.length = L ∧ DivOk (trim a) (trim b) q r ↔ q.length = d ∧ (r.length = L ∧ DivOk (trim a) (trim b) q r) from Iff.rfl] at HDS
    have HO := Lib.hid (And.intro o1 o2)
    have HF := Lib.hid (And.intro hf hfr)
    have HGN := Lib.hid (And.intro hG hNQ)
    have HDK := Lib.hid (And.intro hD hK)
    clear hds b1 b2 b3 b4 b5 o1 o2 o3 hf hfr hG hNQ hD hK hys
    go_wp2_with fail
    refine wp_region_noPanic ?_
    refine wp_region_held_drew (S := fun w' => w'.cell? ⟨NQ, 0, none⟩ = some (.slice (some ⟨G, 0, none⟩) d d) ∧ w'.cell? ⟨w4.heap.size, 0, none⟩ = some (.slice R L cr)) (by kernel_rfl) ?hs0 ?rg0
    case hs0 =>
      exact ⟨hc5, hc4⟩
    case rg0 =>
    intro hHeld
    refine wpAnyH_take (i := 0) (oi := { dst := some 65, op := Op.load 22 (Operand.tmp 11), type := 22, pos := _, after := #[], guard := none }) (v := ?_) rfl (by kernel_rfl) (by kernel_rfl) (by kernel_rfl) (fun _ _ _ h => h) (Or.inl ⟨by rfl, ?_⟩) (by assumption) ?_
    rotate_left
    · intro w hSw
      try dsimp only at hSw
      go_simp
      try with_reducible rfl
    try simp only [Act.put, List.setIfInBounds_toArray, List.set_cons_zero, List.set_cons_succ]
    refine wpAnyH_take (i := 2) (oi := { dst := some 67, op := Op.load 22 (Operand.tmp 10), type := 22, pos := _, after := #[], guard := none }) (v := ?_) rfl (by kernel_rfl) (by kernel_rfl) (by kernel_rfl) (fun _ _ _ h => h) (Or.inl ⟨by rfl, ?_⟩) (by assumption) ?_
    rotate_left
    · intro w hSw
      try dsimp only at hSw
      go_simp
      try with_reducible rfl
    try simp only [Act.put, List.setIfInBounds_toArray, List.set_cons_zero, List.set_cons_succ]
    refine wpAnyH_ready (rs := [1]) (by kernel_rfl) (by simp) ?_
    refine AllReadyH.cons (o := { dst := some 66, op := Op.call { callee := Callee.value (Operand.func 16), args := #[Operand.tmp 65], argTypes := #[22] }, type := 22, pos := _, after := #[{ on := 0, ground := Ground.data }], guard := none }) rfl (fun K hK => ?_) AllReadyH.nil
    go_simp
    refine (trim_any W.drew (some ⟨G, 0, none⟩) q d d HDS.out.1.symm (by have := HDS.out.1; omega) (by have := HDS.out.1; omega) (Bytes.below (HO.out.1.bytes) (nextN (Mem.start W) 1))).mono ?_
    rintro e w9 ⟨Q9, c9, rfl, ho9, hb9⟩
    have H9 := Lib.hid (And.intro ho9 hb9)
    clear ho9 hb9
    try dsimp only
    refine hK.out _ _ ?_ (fun hHeld => ?_)
    · try dsimp only
      obtain ⟨h1, h2⟩ := hHeld
      exact ⟨(H9.out.2.cell (alive h1)).trans h1, (H9.out.2.cell (alive h2)).trans h2⟩
    clear hK K
    try simp only [Act.put, List.setIfInBounds_toArray, List.set_cons_zero, List.set_cons_succ]
    refine wpAnyH_ready (rs := [3]) (by kernel_rfl) (by simp) ?_
    refine AllReadyH.cons (o := { dst := some 68, op := Op.call { callee := Callee.value (Operand.func 16), args := #[Operand.tmp 67], argTypes := #[22] }, type := 22, pos := _, after := #[{ on := 2, ground := Ground.data }, { on := 1, ground := Ground.chain }], guard := none }) rfl (fun K hK => ?_) AllReadyH.nil
    go_simp
    refine (trim_any w9 R r L cr HDS.out.2.1.symm (by have := HDS.out.2.1; omega) (by have := HO.out.2.le; simpa using this) (Bytes.below ((Bytes.below (HO.out.2.bytes) (nextN (Mem.start W) 1)).up (by exact Nat.le_refl _)) (H9.out.2) |>.up H9.out.2.size)).mono ?_
    rintro e w10 ⟨R10, c10, rfl, ho10, hb10⟩
    have H10 := Lib.hid (And.intro ho10 hb10)
    clear ho10 hb10
    try dsimp only
    refine hK.out _ _ ?_ (fun hHeld => ?_)
    · try dsimp only
      obtain ⟨h1, h2⟩ := hHeld
      exact ⟨(H10.out.2.cell (alive h1)).trans h1, (H10.out.2.cell (alive h2)).trans h2⟩
    clear hK K
    try simp only [Act.put, List.setIfInBounds_toArray, List.set_cons_zero, List.set_cons_succ]
    refine wpAnyH_take (i := 4) (oi := { dst := some 6, op := Op.assign (Operand.tmp 66), type := 22, pos := _, after := #[{ on := 1, ground := Ground.data }, { on := 3, ground := Ground.chain }, { on := 0, ground := Ground.phase }, { on := 1, ground := Ground.phase }, { on := 2, ground := Ground.textOnly Departure.lateStores }, { on := 3, ground := Ground.textOnly Departure.lateStoresUnsure }], guard := none }) (v := ?_) rfl (by kernel_rfl) (by kernel_rfl) (by kernel_rfl) (fun _ _ _ h => h) (Or.inl ⟨by rfl, ?_⟩) (by assumption) ?_
    rotate_left
    · intro w hSw
      try dsimp only at hSw
      go_simp
      try with_reducible rfl
    try simp only [Act.put, List.setIfInBounds_toArray, List.set_cons_zero, List.set_cons_succ]
    refine wpAnyH_take (i := 5) (oi := { dst := some 7, op := Op.assign (Operand.tmp 68), type := 22, pos := _, after := #[{ on := 3, ground := Ground.data }, { on := 4, ground := Ground.chain }, { on := 0, ground := Ground.phase }, { on := 1, ground := Ground.phase }, { on := 2, ground := Ground.phase }, { on := 3, ground := Ground.phase }, { on := 4, ground := Ground.phase }], guard := none }) (v := ?_) rfl (by kernel_rfl) (by kernel_rfl) (by kernel_rfl) (fun _ _ _ h => h) (Or.inl ⟨by rfl, ?_⟩) (by assumption) ?_
    rotate_left
    · intro w hSw
      try dsimp only at hSw
      go_simp
      try with_reducible rfl
    try simp only [Act.put, List.setIfInBounds_toArray, List.set_cons_zero, List.set_cons_succ]
    refine wpAnyH_take (i := 6) (oi := { dst := some 8, op := Op.assign (Operand.const (Value.int IntKind.i64 0)), type := 26, pos := _, after := #[{ on := 5, ground := Ground.chain }, { on := 0, ground := Ground.phase }, { on := 1, ground := Ground.phase }, { on := 2, ground := Ground.phase }, { on := 3, ground := Ground.phase }, { on := 4, ground := Ground.phase }, { on := 5, ground := Ground.phase }], guard := none }) (v := ?_) rfl (by kernel_rfl) (by kernel_rfl) (by kernel_rfl) (fun _ _ _ h => h) (Or.inl ⟨by rfl, ?_⟩) (by assumption) ?_
    rotate_left
    · intro w hSw
      try dsimp only at hSw
      go_simp
      try with_reducible rfl
    try simp only [Act.put, List.setIfInBounds_toArray, List.set_cons_zero, List.set_cons_succ]
    refine wpAnyH_done (by kernel_rfl) ?_ _
    refine NoPanic.normal ?_
    go_wp2_with fail
    have hs1 : W.heap.size ≤ w9.heap.size := H9.out.2.size
    have hKD : w10.heap[D]? = some (.deferred (some [])) := by
      have hDl : D < W.heap.size := (Array.getElem?_eq_some_iff.1 HDK.out.2).1
      rw [H10.out.2.block D (by omega), H9.out.2.block D hDl]; exact HDK.out.2
    have hSt := shut_still (B := 0) (.deferred none) hKD rfl (Nat.zero_le _)
    have hb2 : Below W.heap.size W w10 := (nextN (Mem.start W) 1).trans (H9.out.2.trans (H10.out.2.mono H9.out.2.size))
    refine ⟨by simp, .inl ⟨_, _, rfl, run_takeDeferred hKD, ?_⟩⟩
    refine ⟨.tuple #[.slice Q9 (trim q).length c9, .slice R10 (trim r).length c10, .int .i64 0], ?_, ?_⟩
    · simp [results, Try.results14, go_sem]
    · refine ⟨q, r, Q9, c9, R10, c10, HDS.out.2.2.congr (trim_eqv a) (trim_eqv b) (Eqv.refl _) (Eqv.refl _), rfl, ?_, ?_, ?_, ?_⟩
      · exact hSt.own ((H9.out.1.keep H10.out.2).down HF.out.2.size)
      · exact hSt.own (H10.out.1.down (Nat.le_trans HF.out.2.size hs1))
      · exact Still.fld hSt (HF.out.1.keep hb2)
      · exact shut_fr (HF.out.2.trans (Fr.quiet (S := fun _ => False) hb2) (fun _ _ h => h.elim)) (by have := HGN.out; have := HDK.out.1; have := HS8.out; have := HW4.out.2.2.1.size; omega) _
  case stop =>
    rintro D c pre W hD _ h
    exact h.elim
end Go.Proofs.Ytciilojlfaihjaa.PlW
