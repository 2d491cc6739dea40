/- poly.Through; poly.Div by nought. -/
import Derived.Test.YtciilojlfaihjaaPlDiv
namespace Go.Proofs.Ytciilojlfaihjaa.PlW
open Go.RowKit Go.Shelf Mem Gf FdW Pl Rng
set_option linter.unusedVariables false

/-- Is there a polynomial through them? -/
def Good (xs ys : List UInt8) : Prop := xs.length = ys.length ∧ xs.Nodup
/-- What Through leaves. -/
def ThrF (w : World) (p : Nat) (xs ys : List UInt8) (e : Ending) (w' : World) : Prop :=
  ((Good xs ys ∧ ∃ P A c, ThrOk xs ys P ∧ trim P = P ∧ e = .returned (.tuple #[.slice A P.length c, .int .i64 0]) ∧ Mem.Own w' w.heap.size 5 A c (P.map u8v)) ∨ (¬ Good xs ys ∧ e = .returned (.tuple #[.slice none 0 0, .int .i64 2]))) ∧ Fld w' p ∧ Fr (fun k => k = p) w w'
theorem thr_start (xs ys : List UInt8) : len ([] : List UInt8) ≤ 0 ∧ ∀ j (h : j < 0) (h1 : j < xs.length) (h2 : j < ys.length), ev [] xs[j] = ys[j] := ⟨Nat.le_refl _, fun j h => by omega⟩
/-- The state of the loop. -/
def TS (xs ys : List UInt8) (i : Nat) (out basis : List UInt8) : Prop :=
  trim out = out ∧ len out ≤ i ∧ (∀ j (h : j < i) (h1 : j < xs.length) (h2 : j < ys.length), ev out xs[j] = ys[j]) ∧ trim basis = basis ∧ Eqv basis (rootsP (xs.take i)) ∧ (∀ j (h : j < i) (h1 : j < xs.length), xs[j] ∉ xs.take j)
theorem TS.start (xs ys : List UInt8) : TS xs ys 0 [] [1] := ⟨rfl, Nat.le_refl _, fun j h => by omega, rfl, Eqv.refl _, fun j h => by omega⟩
theorem TS.lens {xs ys : List UInt8} {i : Nat} {out basis : List UInt8} (h : TS xs ys i out basis) (hi : i ≤ xs.length) : out.length ≤ i ∧ basis.length = i + 1 := by
  obtain ⟨h1, h2, _, h4, h5, _⟩ := h
  refine ⟨by rw [← h1]; exact h2, ?_⟩
  rw [← h4, trim_len_of h5, rootsP_len, List.length_take]; omega
theorem TS.step {xs ys : List UInt8} {i : Nat} {out basis : List UInt8} (h : TS xs ys i out basis) (hi : i < xs.length) (hy : xs.length = ys.length) (hx : ev basis (cf xs i) ≠ 0) :
    TS xs ys (i + 1) (trim (add out (trim (mulP basis [div (cf ys i ^^^ ev out (cf xs i)) (ev basis (cf xs i))])))) (trim (mulP basis [cf xs i, 1])) := by
  obtain ⟨h1, h2, h3, h4, h5, h6⟩ := h
  have ex : cf xs i = xs[i] := cf_lt hi
  have ey : cf ys i = ys[i]'(by omega) := cf_lt (by omega)
  rw [ex] at hx
  rw [ex, ey]
  obtain ⟨n1, n2⟩ := newton hi hy h5 h2 (fun j hj => h3 j hj (by omega) (by omega)) hx
  have hev : Eqv (trim (add out (trim (mulP basis [div (ys[i]'(by omega) ^^^ ev out xs[i]) (ev basis xs[i])])))) (add out (mulP basis [div (ys[i]'(by omega) ^^^ ev out xs[i]) (ev basis xs[i])])) :=
    (trim_eqv _).trans (add_congr (Eqv.refl _) (trim_eqv _))
  refine ⟨trim_trim _, by rw [len_congr hev]; exact n1, fun j hj _ _ => by rw [ev_congr hev]; exact n2 j hj, trim_trim _, ?_, fun j hj hjl => ?_⟩
  · have hrt := roots_take hi h5
    rwa [ex] at hrt
  · by_cases e : j = i
    · subst e
      intro hm
      apply hx
      rw [ev_congr h5, (rootsP_facts _).2]; exact hm
    · exact h6 j (by omega) hjl
theorem TS.bad {xs ys : List UInt8} {i : Nat} {out basis : List UInt8} (h : TS xs ys i out basis) (hi : i < xs.length) (hx : ev basis (cf xs i) = 0) : ¬ Good xs ys := fun hg => by
  obtain ⟨_, _, _, _, h5, _⟩ := h
  rw [ev_congr h5, (rootsP_facts _).2, cf_lt hi] at hx
  obtain ⟨j, hj, e⟩ := List.mem_iff_getElem.1 hx
  rw [List.getElem_take] at e
  rw [List.length_take] at hj
  have := (List.pairwise_iff_getElem.1 hg.2) j i (by omega) hi (by omega)
  exact this e
theorem TS.done {xs ys out basis : List UInt8} (h : TS xs ys xs.length out basis) (hy : xs.length = ys.length) : Good xs ys ∧ ThrOk xs ys out ∧ trim out = out :=
  ⟨⟨hy, nodup_of_take fun i hi => h.2.2.2.2.2 i hi hi⟩, ⟨h.2.1, fun i hi k => h.2.2.1 i hi hi k⟩, h.1⟩

set_option maxRecDepth 100000 in
set_option maxHeartbeats 1000000 in
theorem div_none (w : World) (p : Nat) (hp : Fld w p) (A : Option Addr) (a : List UInt8) (n0 ca : Nat) (B : Option Addr) (b : List UInt8) (m0 cb : Nat) (hm0 : m0 = b.length) (hlb : (b.length : Int) ≤ 1000) (hcb : b.length ≤ cb) (hB : In w p B b) (hb : len b = 0) :
    Calls Try.prog 14 #[fptr (some p), .slice A n0 ca, .slice B m0 cb] w fun e w' => e = .returned (.tuple #[.slice none 0 0, .slice none 0 0, .int .i64 30]) ∧ Fld w' p ∧ Fr (fun k => k = p) w w' := by
  subst hm0
  refine of_wide ?_
  refine callsIn_of_wp_marks Try.func14 rfl trivial ?_ rfl
  refine wpIn_wide.2 ?_
  simp only [Try.ntmps14, List.size_toArray, List.length_cons, List.length_nil, Nat.reduceAdd, Nat.reduceSub, Array.replicate_succ, Array.replicate_zero, List.push_toArray, List.append_toArray, List.nil_append, List.cons_append]
  have HB := Lib.hid hB
  have HP := Lib.hid hp
  have HL := Lib.hid (And.intro hlb hcb)
  have hps : fptr (some p) = .pointer (some ⟨p, 0, none⟩) := rfl
  rw [hps]
  have HNB := Lib.hid hb
  clear hB hp hps hcb hb
  go_wp2_with fail
  obtain ⟨wa, hwa⟩ : ∃ wa, wa = (w.alloc (.cells #[.pointer (some ⟨p, 0, none⟩)] 24)).alloc (.cells #[.slice B b.length cb] 22) := ⟨_, rfl⟩
  have aB : Blk wa (w.heap.size + 1) 22 #[.slice B b.length cb] := by
    rw [hwa]; have := Blk.new (w.alloc (.cells #[.pointer (some ⟨p, 0, none⟩)] 24)) 22 #[.slice B b.length cb]
    rwa [World.size_alloc] at this
  have ab : Below w.heap.size w wa := by rw [hwa]; exact ((Below.refl _ w).alloc (Nat.le_refl _) _).alloc (by simp) _
  rw [← hwa]
  clear hwa
  refine (trim_any wa B b b.length cb rfl (by have := HL.out; omega) HL.out.2 ((HB.out.1.below ab).up (by have := ab.size; omega))).mono ?_
  rintro e w1 ⟨B1, c1, rfl, ho1, hb1⟩
  rw [show (trim b).length = 0 from HNB.out]
  have hc1 := one (aB.keep hb1)
  have hf1 := (aB.keep hb1).frozen 0
  have HB1 := Lib.hid (ab.trans (hb1.mono ab.size))
  clear aB ab ho1 hb1
  go_wp2_with fail
  refine ⟨.tuple #[.slice none 0 0, .slice none 0 0, .int .i64 30], ?_, rfl, ?_, ?_⟩
  · simp [results, Try.results14, go_sem]
  · exact HP.out.keep (((HB1.out.setCell (p := ⟨w.heap.size + 1, 0, none⟩) (by show w.heap.size ≤ w.heap.size + 1; omega) _).alloc (by rw [World.size_setCell]; exact HB1.out.size) _))
  · exact Fr.quiet (((HB1.out.setCell (p := ⟨w.heap.size + 1, 0, none⟩) (by show w.heap.size ≤ w.heap.size + 1; omega) _).alloc (by rw [World.size_setCell]; exact HB1.out.size) _))

set_option maxRecDepth 100000 in
set_option maxHeartbeats 4000000 in
theorem thr_any (w : World) (p : Nat) (hp : Fld w p) (A : Option Addr) (xs : List UInt8) (n0 ca : Nat) (hn0 : n0 = xs.length) (B : Option Addr) (ys : List UInt8) (m0 cb : Nat) (hm0 : m0 = ys.length) (hlx : (xs.length : Int) ≤ 1000) (hA : In w p A xs) (hB : In w p B ys) :
    Calls Try.prog 24 #[fptr (some p), .slice A n0 ca, .slice B m0 cb] w (ThrF w p xs ys) := by
  subst hn0; subst hm0
  have HA := Lib.hid hA
  have HB := Lib.hid hB
  have HP := Lib.hid hp
  have HL := Lib.hid hlx
  clear hA hB hp
  by_cases hxy : xs.length = ys.length
  · have hne : ((xs.length : Int) != (ys.length : Int)) = false := by simp [hxy]
    have hlen : ys.length = xs.length := hxy.symm
    have HXY := Lib.hid hxy
    rw [hlen] at hne ⊢
    clear hxy hlen
    have hb1 := build1 w 1
    have HP0 := Lib.hid (HP.out.keep (nextA (Mem.start w) (.cells #[.int .u8 1] 5)))
    have HF0 := Lib.hid (Fr.alloc (Fr.refl (fun k => k = p) w) (.cells #[.int .u8 1] 5))
    have HO := Lib.hid (show Mem.Own (w.alloc (.cells #[.int .u8 1] 5)) w.heap.size 5 (some ⟨w.heap.size, 0, none⟩) 1 ([1].map u8v) from own1 w 1)
    go_enter Try.func24, Try.ntmps24
    go_wp2_with fail
    generalize w.alloc (.cells #[.int .u8 1] 5) = w1 at *
    clear hb1
    go_loopw [8, 9, 22] (fun s b i wr => ∃ (j : Nat) (O : Option Addr) (co : Nat) (out : List UInt8) (Q : Option Addr) (cq : Nat) (basis : List UInt8), i = .int .i64 (j : Int) ∧ s = .slice O out.length co ∧ b = .slice Q basis.length cq ∧ j ≤ xs.length ∧ TS xs ys j out basis ∧ Mem.Own wr w.heap.size 5 O co (out.map u8v) ∧ Mem.Own wr w.heap.size 5 Q cq (basis.map u8v) ∧ Fld wr p ∧ Fr (fun k => k = p) w wr) (fun _ _ i _ => xs.length - (intOf i).toNat)
    case atStart => exact ⟨0, none, 0, [], some ⟨w.heap.size, 0, none⟩, 1, [1], rfl, rfl, rfl, Nat.zero_le _, TS.start _ _, Own.nil, HO.out, HP0.out, HF0.out⟩
    case round =>
      obtain ⟨j, O, co, out, Q, cq, basis, rfl, rfl, rfl, hj, hts, ho, hq, hf, hfr⟩ := hrel
      by_cases hja : j < xs.length
      · have HR := Lib.hid (And.intro (And.intro ho hq) (And.intro hf hfr))
        have HT := Lib.hid hts
        have hll := hts.lens hj
        have hlo := hll.1
        have hlb := hll.2
        clear ho hq hf hfr hts hll
        have hIA := HA.out.field HR.out.2.2
        have hIB := HB.out.field HR.out.2.2
        obtain ⟨q1, off1, rfl, hq1, hcx⟩ := hIA.1.at_ (k := j) hja
        obtain ⟨q2, off2, rfl, hq2, hcy⟩ := hIB.1.at_ (k := j) (by rw [← HXY.out]; exact hja)
        rw [← cf_lt hja] at hcx
        rw [← cf_lt (show j < ys.length from by rw [← HXY.out]; exact hja)] at hcy
        have hji : (j : Int) < (xs.length : Int) := by omega
        have HJ := Lib.hid hja
        have HLN := Lib.hid (And.intro hlo hlb)
        have HIB := Lib.hid (show q2 ≠ p from hIB.2 q2 off2 rfl (by rw [← HXY.out]; omega))
        obtain ⟨x, hx⟩ : ∃ x, cf xs j = x := ⟨_, rfl⟩
        obtain ⟨y, hy⟩ : ∃ y, cf ys j = y := ⟨_, rfl⟩
        rw [hx] at hcx
        rw [hy] at hcy
        have HXV := Lib.hid (And.intro hx hy)
        clear hIA hIB hx hy hja hlo hlb
        by_cases hb0 : ev basis x = 0
        · have HB0 := Lib.hid hb0
          have hnz : nz (ev basis x) = false := by rw [hb0]; rfl
          clear hb0
          go_wp2_with fail
          refine wp_region_noPanic ?_
          refine wp_region_held_drew (S := fun w' => w'.cell? ⟨q2, off2 + j, none⟩ = some (.int .u8 (y.toNat : Int))) (by kernel_rfl) ?hs0 ?rg0
          case hs0 =>
            exact hcy
          case rg0 =>
          intro hHeld
          refine wpAnyH_take (i := 0) (oi := { dst := some 28, op := Op.move (Operand.tmp 0), type := 24, pos := _, after := #[], guard := none }) (v := ?_) rfl (by kernel_rfl) (by kernel_rfl) (by kernel_rfl) (fun _ _ _ h => h) (Or.inl ⟨by rfl, ?_⟩) (by assumption) ?_
          rotate_left
          · intro w hSw
            try dsimp only at hSw
            go_simp
            try with_reducible rfl
          try simp only [Act.put, List.setIfInBounds_toArray, List.set_cons_zero, List.set_cons_succ]
          refine wpAnyH_take (i := 1) (oi := { dst := some 29, op := Op.move (Operand.tmp 2), type := 22, pos := _, after := #[], guard := none }) (v := ?_) rfl (by kernel_rfl) (by kernel_rfl) (by kernel_rfl) (fun _ _ _ h => h) (Or.inl ⟨by rfl, ?_⟩) (by assumption) ?_
          rotate_left
          · intro w hSw
            try dsimp only at hSw
            go_simp
            try with_reducible rfl
          try simp only [Act.put, List.setIfInBounds_toArray, List.set_cons_zero, List.set_cons_succ]
          refine wpAnyH_take (i := 2) (oi := { dst := some 30, op := Op.move (Operand.tmp 10), type := 3, pos := _, after := #[], guard := none }) (v := ?_) rfl (by kernel_rfl) (by kernel_rfl) (by kernel_rfl) (fun _ _ _ h => h) (Or.inl ⟨by rfl, ?_⟩) (by assumption) ?_
          rotate_left
          · intro w hSw
            try dsimp only at hSw
            go_simp
            try with_reducible rfl
          try simp only [Act.put, List.setIfInBounds_toArray, List.set_cons_zero, List.set_cons_succ]
          refine wpAnyH_take (i := 3) (oi := { dst := some 31, op := Op.indexAddr 22 (Operand.tmp 29) (Operand.tmp 30), type := 0, pos := _, after := #[{ on := 1, ground := Ground.data }, { on := 2, ground := Ground.data }], guard := none }) (v := ?_) rfl (by kernel_rfl) (by kernel_rfl) (by kernel_rfl) (fun _ _ _ h => h) (Or.inl ⟨by rfl, ?_⟩) (by assumption) ?_
          rotate_left
          · intro w hSw
            try dsimp only at hSw
            go_simp
            try with_reducible rfl
          try simp only [Act.put, List.setIfInBounds_toArray, List.set_cons_zero, List.set_cons_succ]
          refine wpAnyH_take (i := 4) (oi := { dst := some 32, op := Op.load 5 (Operand.tmp 31), type := 5, pos := _, after := #[{ on := 3, ground := Ground.data }], guard := none }) (v := ?_) rfl (by kernel_rfl) (by kernel_rfl) (by kernel_rfl) (fun _ _ _ h => h) (Or.inl ⟨by rfl, ?_⟩) (by assumption) ?_
          rotate_left
          · intro w hSw
            try dsimp only at hSw
            go_simp
            try with_reducible rfl
          try simp only [Act.put, List.setIfInBounds_toArray, List.set_cons_zero, List.set_cons_succ]
          refine wpAnyH_take (i := 5) (oi := { dst := some 33, op := Op.move (Operand.tmp 0), type := 24, pos := _, after := #[], guard := none }) (v := ?_) rfl (by kernel_rfl) (by kernel_rfl) (by kernel_rfl) (fun _ _ _ h => h) (Or.inl ⟨by rfl, ?_⟩) (by assumption) ?_
          rotate_left
          · intro w hSw
            try dsimp only at hSw
            go_simp
            try with_reducible rfl
          try simp only [Act.put, List.setIfInBounds_toArray, List.set_cons_zero, List.set_cons_succ]
          refine wpAnyH_take (i := 6) (oi := { dst := some 34, op := Op.move (Operand.tmp 8), type := 22, pos := _, after := #[], guard := none }) (v := ?_) rfl (by kernel_rfl) (by kernel_rfl) (by kernel_rfl) (fun _ _ _ h => h) (Or.inl ⟨by rfl, ?_⟩) (by assumption) ?_
          rotate_left
          · intro w hSw
            try dsimp only at hSw
            go_simp
            try with_reducible rfl
          try simp only [Act.put, List.setIfInBounds_toArray, List.set_cons_zero, List.set_cons_succ]
          refine wpAnyH_take (i := 7) (oi := { dst := some 35, op := Op.move (Operand.tmp 11), type := 5, pos := _, after := #[], guard := none }) (v := ?_) rfl (by kernel_rfl) (by kernel_rfl) (by kernel_rfl) (fun _ _ _ h => h) (Or.inl ⟨by rfl, ?_⟩) (by assumption) ?_
          rotate_left
          · intro w hSw
            try dsimp only at hSw
            go_simp
            try with_reducible rfl
          try simp only [Act.put, List.setIfInBounds_toArray, List.set_cons_zero, List.set_cons_succ]
          refine wpAnyH_take (i := 10) (oi := { dst := some 38, op := Op.move (Operand.tmp 0), type := 24, pos := _, after := #[], guard := none }) (v := ?_) rfl (by kernel_rfl) (by kernel_rfl) (by kernel_rfl) (fun _ _ _ h => h) (Or.inl ⟨by rfl, ?_⟩) (by assumption) ?_
          rotate_left
          · intro w hSw
            try dsimp only at hSw
            go_simp
            try with_reducible rfl
          try simp only [Act.put, List.setIfInBounds_toArray, List.set_cons_zero, List.set_cons_succ]
          refine wpAnyH_take (i := 11) (oi := { dst := some 39, op := Op.move (Operand.tmp 9), type := 22, pos := _, after := #[], guard := none }) (v := ?_) rfl (by kernel_rfl) (by kernel_rfl) (by kernel_rfl) (fun _ _ _ h => h) (Or.inl ⟨by rfl, ?_⟩) (by assumption) ?_
          rotate_left
          · intro w hSw
            try dsimp only at hSw
            go_simp
            try with_reducible rfl
          try simp only [Act.put, List.setIfInBounds_toArray, List.set_cons_zero, List.set_cons_succ]
          refine wpAnyH_take (i := 12) (oi := { dst := some 40, op := Op.move (Operand.tmp 11), type := 5, pos := _, after := #[], guard := none }) (v := ?_) rfl (by kernel_rfl) (by kernel_rfl) (by kernel_rfl) (fun _ _ _ h => h) (Or.inl ⟨by rfl, ?_⟩) (by assumption) ?_
          rotate_left
          · intro w hSw
            try dsimp only at hSw
            go_simp
            try with_reducible rfl
          try simp only [Act.put, List.setIfInBounds_toArray, List.set_cons_zero, List.set_cons_succ]
          refine wpAnyH_ready (rs := [8]) (by kernel_rfl) (by simp) ?_
          refine AllReadyH.cons (o := { dst := some 36, op := Op.call { callee := Callee.value (Operand.func 26), args := #[Operand.tmp 33, Operand.tmp 34, Operand.tmp 35], argTypes := #[24, 22, 5] }, type := 5, pos := _, after := #[{ on := 5, ground := Ground.data }, { on := 6, ground := Ground.data }, { on := 7, ground := Ground.data }], guard := none }) rfl (fun K hK => ?_) AllReadyH.nil
          go_simp
          refine (at_any wr.drew p (HR.out.2.1.keep (nextN (Mem.start wr) 1)) O out out.length co rfl (by have := HLN.out; omega) (In.own (HR.out.1.1.drewN 1) (HR.out.2.1.keep (nextN (Mem.start wr) 1))) _ x rfl).mono ?_
          rintro e w2 ⟨rfl, hF2, hf2⟩
          have H2 := Lib.hid (And.intro hF2 hf2)
          clear hF2 hf2
          try dsimp only
          refine hK.out _ _ ?_ (fun hHeld => ?_)
          · try dsimp only
            exact cellFr H2.out.2 hHeld (fun h => HIB.out (by injection h with h; exact h.symm))
          clear hK K
          try simp only [Act.put, List.setIfInBounds_toArray, List.set_cons_zero, List.set_cons_succ]
          refine wpAnyH_ready (rs := [9]) (by kernel_rfl) (by simp) ?_
          refine AllReadyH.cons (o := { dst := some 37, op := Op.call { callee := Callee.value (Operand.func 30), args := #[Operand.tmp 32, Operand.tmp 36], argTypes := #[5, 5] }, type := 5, pos := _, after := #[{ on := 4, ground := Ground.data }, { on := 8, ground := Ground.data }, { on := 8, ground := Ground.chain }], guard := none }) rfl (fun K hK => ?_) AllReadyH.nil
          go_simp
          refine (add_any _ _ y (ev out x) rfl rfl _).mono ?_
          rintro e w2b ⟨rfl, rfl⟩
          try dsimp only
          refine hK.out _ _ ?_ (fun hHeld => ?_)
          · try dsimp only
            exact hHeld
          clear hK K
          try simp only [Act.put, List.setIfInBounds_toArray, List.set_cons_zero, List.set_cons_succ]
          refine wpAnyH_ready (rs := [13]) (by kernel_rfl) (by simp) ?_
          refine AllReadyH.cons (o := { dst := some 41, op := Op.call { callee := Callee.value (Operand.func 26), args := #[Operand.tmp 38, Operand.tmp 39, Operand.tmp 40], argTypes := #[24, 22, 5] }, type := 5, pos := _, after := #[{ on := 10, ground := Ground.data }, { on := 11, ground := Ground.data }, { on := 12, ground := Ground.data }, { on := 9, ground := Ground.chain }], guard := none }) rfl (fun K hK => ?_) AllReadyH.nil
          go_simp
          refine (at_any w2 p (H2.out.1 p rfl) Q basis basis.length cq rfl (by have := HLN.out; omega) (In.own ((HR.out.1.2.drewN 1).fr H2.out.2 (fun g hg h => (In.own HR.out.1.2 HR.out.2.1).2 g 0 hg (by have := HLN.out; omega) (by injection h with h; exact h.symm))) (H2.out.1 p rfl)) _ x rfl).mono ?_
          rintro e w3 ⟨rfl, hF3, hf3⟩
          have H3 := Lib.hid (And.intro hF3 hf3)
          clear hF3 hf3
          try dsimp only
          refine hK.out _ _ ?_ (fun hHeld => ?_)
          · try dsimp only
            exact cellFr H3.out.2 hHeld (fun h => HIB.out (by injection h with h; exact h.symm))
          clear hK K
          try simp only [Act.put, List.setIfInBounds_toArray, List.set_cons_zero, List.set_cons_succ]
          refine wpAnyH_ready (rs := [14]) (by kernel_rfl) (by simp) ?_
          refine AllReadyH.cons (o := { dst := some 42, op := Op.call { callee := Callee.value (Operand.func 33), args := #[Operand.tmp 28, Operand.tmp 37, Operand.tmp 41], argTypes := #[24, 5, 5] }, type := 65, pos := _, after := #[{ on := 0, ground := Ground.data }, { on := 9, ground := Ground.data }, { on := 13, ground := Ground.data }, { on := 13, ground := Ground.chain }], guard := none }) rfl (fun K hK => ?_) AllReadyH.nil
          go_simp
          refine (div_any w3 (some p) H3.out.1 _ _ (y ^^^ ev out x) (ev basis x) rfl rfl).mono ?_
          rintro e w4 ⟨rfl, hF4, hf4⟩
          have H4 := Lib.hid (And.intro hF4 hf4)
          clear hF4 hf4
          try dsimp only
          refine hK.out _ _ ?_ (fun hHeld => ?_)
          · try dsimp only
            exact cellFr H4.out.2 hHeld (fun h => HIB.out (by injection h with h; exact h.symm))
          clear hK K
          try simp only [Act.put, List.setIfInBounds_toArray, List.set_cons_zero, List.set_cons_succ]
          refine wpAnyH_take (i := 15) (oi := { dst := some 27, op := Op.move (Operand.tmp 42), type := 65, pos := _, after := #[{ on := 14, ground := Ground.data }], guard := none }) (v := ?_) rfl (by kernel_rfl) (by kernel_rfl) (by kernel_rfl) (fun _ _ _ h => h) (Or.inl ⟨by rfl, ?_⟩) (by assumption) ?_
          rotate_left
          · intro w hSw
            try dsimp only at hSw
            go_simp
            try with_reducible rfl
          try simp only [Act.put, List.setIfInBounds_toArray, List.set_cons_zero, List.set_cons_succ]
          refine wpAnyH_take (i := 16) (oi := { dst := some 43, op := Op.extract (Operand.tmp 27) 0, type := 5, pos := _, after := #[{ on := 15, ground := Ground.data }], guard := none }) (v := ?_) rfl (by kernel_rfl) (by kernel_rfl) (by kernel_rfl) (fun _ _ _ h => h) (Or.inl ⟨by rfl, ?_⟩) (by assumption) ?_
          rotate_left
          · intro w hSw
            try dsimp only at hSw
            go_simp
            try with_reducible rfl
          try simp only [Act.put, List.setIfInBounds_toArray, List.set_cons_zero, List.set_cons_succ]
          refine wpAnyH_take (i := 17) (oi := { dst := some 44, op := Op.extract (Operand.tmp 27) 1, type := 4, pos := _, after := #[{ on := 15, ground := Ground.data }, { on := 18, ground := Ground.gcOnly Departure.lateStores }], guard := none }) (v := ?_) rfl (by kernel_rfl) (by kernel_rfl) (by kernel_rfl) (fun _ _ _ h => h) (Or.inl ⟨by rfl, ?_⟩) (by assumption) ?_
          rotate_left
          · intro w hSw
            try dsimp only at hSw
            go_simp
            try with_reducible rfl
          try simp only [Act.put, List.setIfInBounds_toArray, List.set_cons_zero, List.set_cons_succ]
          refine wpAnyH_take (i := 18) (oi := { dst := some 12, op := Op.assign (Operand.tmp 43), type := 5, pos := _, after := #[{ on := 16, ground := Ground.data }, { on := 14, ground := Ground.chain }, { on := 0, ground := Ground.phase }, { on := 1, ground := Ground.phase }, { on := 2, ground := Ground.phase }, { on := 3, ground := Ground.phase }, { on := 4, ground := Ground.phase }, { on := 5, ground := Ground.phase }, { on := 6, ground := Ground.phase }, { on := 7, ground := Ground.phase }, { on := 8, ground := Ground.phase }, { on := 9, ground := Ground.phase }, { on := 10, ground := Ground.phase }, { on := 11, ground := Ground.phase }, { on := 12, ground := Ground.phase }, { on := 13, ground := Ground.phase }, { on := 14, ground := Ground.phase }, { on := 15, ground := Ground.phase }, { on := 16, ground := Ground.phase }, { on := 17, ground := Ground.textOnly Departure.lateStores }], guard := none }) (v := ?_) rfl (by kernel_rfl) (by kernel_rfl) (by kernel_rfl) (fun _ _ _ h => h) (Or.inl ⟨by rfl, ?_⟩) (by assumption) ?_
          rotate_left
          · intro w hSw
            try dsimp only at hSw
            go_simp
            try with_reducible rfl
          try simp only [Act.put, List.setIfInBounds_toArray, List.set_cons_zero, List.set_cons_succ]
          refine wpAnyH_take (i := 19) (oi := { dst := some 13, op := Op.assign (Operand.tmp 44), type := 4, pos := _, after := #[{ on := 17, ground := Ground.data }, { on := 18, ground := Ground.chain }, { on := 0, ground := Ground.phase }, { on := 1, ground := Ground.phase }, { on := 2, ground := Ground.phase }, { on := 3, ground := Ground.phase }, { on := 4, ground := Ground.phase }, { on := 5, ground := Ground.phase }, { on := 6, ground := Ground.phase }, { on := 7, ground := Ground.phase }, { on := 8, ground := Ground.phase }, { on := 9, ground := Ground.phase }, { on := 10, ground := Ground.phase }, { on := 11, ground := Ground.phase }, { on := 12, ground := Ground.phase }, { on := 13, ground := Ground.phase }, { on := 14, ground := Ground.phase }, { on := 15, ground := Ground.phase }, { on := 16, ground := Ground.phase }, { on := 17, ground := Ground.phase }, { on := 18, ground := Ground.phase }], guard := none }) (v := ?_) rfl (by kernel_rfl) (by kernel_rfl) (by kernel_rfl) (fun _ _ _ h => h) (Or.inl ⟨by rfl, ?_⟩) (by assumption) ?_
          rotate_left
          · intro w hSw
            try dsimp only at hSw
            go_simp
            try with_reducible rfl
          try simp only [Act.put, List.setIfInBounds_toArray, List.set_cons_zero, List.set_cons_succ]
          refine wpAnyH_done (by kernel_rfl) ?_ _
          refine NoPanic.normal ?_
          have HBD := Lib.hid (HT.out.bad HJ.out (by rw [HXV.out.1]; exact HB0.out))
          generalize ev basis x = eb at *
          generalize ev out x = eo at *
          go_wp2_with fail
          go_ret2
          refine ⟨.inr ⟨HBD.out, rfl⟩, H4.out.1 p rfl, ?_⟩
          exact (((HR.out.2.2.drewN 1).trans H2.out.2 (fun k _ h => by injection h with h; exact h.symm)).trans H3.out.2 (fun k _ h => by injection h with h; exact h.symm)).trans H4.out.2 (fun k _ h => by injection h with h; exact h.symm)
        · have HB0 := Lib.hid hb0
          have hnz : nz (ev basis x) = true := nz_ne hb0
          clear hb0
          go_wp2_with fail
          refine wp_region_noPanic ?_
          refine wp_region_held_drew (S := fun w' => w'.cell? ⟨q2, off2 + j, none⟩ = some (.int .u8 (y.toNat : Int))) (by kernel_rfl) ?hs0 ?rg0
          case hs0 =>
            exact hcy
          case rg0 =>
          intro hHeld
          refine wpAnyH_take (i := 0) (oi := { dst := some 28, op := Op.move (Operand.tmp 0), type := 24, pos := _, after := #[], guard := none }) (v := ?_) rfl (by kernel_rfl) (by kernel_rfl) (by kernel_rfl) (fun _ _ _ h => h) (Or.inl ⟨by rfl, ?_⟩) (by assumption) ?_
          rotate_left
          · intro w hSw
            try dsimp only at hSw
            go_simp
            try with_reducible rfl
          try simp only [Act.put, List.setIfInBounds_toArray, List.set_cons_zero, List.set_cons_succ]
          refine wpAnyH_take (i := 1) (oi := { dst := some 29, op := Op.move (Operand.tmp 2), type := 22, pos := _, after := #[], guard := none }) (v := ?_) rfl (by kernel_rfl) (by kernel_rfl) (by kernel_rfl) (fun _ _ _ h => h) (Or.inl ⟨by rfl, ?_⟩) (by assumption) ?_
          rotate_left
          · intro w hSw
            try dsimp only at hSw
            go_simp
            try with_reducible rfl
          try simp only [Act.put, List.setIfInBounds_toArray, List.set_cons_zero, List.set_cons_succ]
          refine wpAnyH_take (i := 2) (oi := { dst := some 30, op := Op.move (Operand.tmp 10), type := 3, pos := _, after := #[], guard := none }) (v := ?_) rfl (by kernel_rfl) (by kernel_rfl) (by kernel_rfl) (fun _ _ _ h => h) (Or.inl ⟨by rfl, ?_⟩) (by assumption) ?_
          rotate_left
          · intro w hSw
            try dsimp only at hSw
            go_simp
            try with_reducible rfl
          try simp only [Act.put, List.setIfInBounds_toArray, List.set_cons_zero, List.set_cons_succ]
          refine wpAnyH_take (i := 3) (oi := { dst := some 31, op := Op.indexAddr 22 (Operand.tmp 29) (Operand.tmp 30), type := 0, pos := _, after := #[{ on := 1, ground := Ground.data }, { on := 2, ground := Ground.data }], guard := none }) (v := ?_) rfl (by kernel_rfl) (by kernel_rfl) (by kernel_rfl) (fun _ _ _ h => h) (Or.inl ⟨by rfl, ?_⟩) (by assumption) ?_
          rotate_left
          · intro w hSw
            try dsimp only at hSw
            go_simp
            try with_reducible rfl
          try simp only [Act.put, List.setIfInBounds_toArray, List.set_cons_zero, List.set_cons_succ]
          refine wpAnyH_take (i := 4) (oi := { dst := some 32, op := Op.load 5 (Operand.tmp 31), type := 5, pos := _, after := #[{ on := 3, ground := Ground.data }], guard := none }) (v := ?_) rfl (by kernel_rfl) (by kernel_rfl) (by kernel_rfl) (fun _ _ _ h => h) (Or.inl ⟨by rfl, ?_⟩) (by assumption) ?_
          rotate_left
          · intro w hSw
            try dsimp only at hSw
            go_simp
            try with_reducible rfl
          try simp only [Act.put, List.setIfInBounds_toArray, List.set_cons_zero, List.set_cons_succ]
          refine wpAnyH_take (i := 5) (oi := { dst := some 33, op := Op.move (Operand.tmp 0), type := 24, pos := _, after := #[], guard := none }) (v := ?_) rfl (by kernel_rfl) (by kernel_rfl) (by kernel_rfl) (fun _ _ _ h => h) (Or.inl ⟨by rfl, ?_⟩) (by assumption) ?_
          rotate_left
          · intro w hSw
            try dsimp only at hSw
            go_simp
            try with_reducible rfl
          try simp only [Act.put, List.setIfInBounds_toArray, List.set_cons_zero, List.set_cons_succ]
          refine wpAnyH_take (i := 6) (oi := { dst := some 34, op := Op.move (Operand.tmp 8), type := 22, pos := _, after := #[], guard := none }) (v := ?_) rfl (by kernel_rfl) (by kernel_rfl) (by kernel_rfl) (fun _ _ _ h => h) (Or.inl ⟨by rfl, ?_⟩) (by assumption) ?_
          rotate_left
          · intro w hSw
            try dsimp only at hSw
            go_simp
            try with_reducible rfl
          try simp only [Act.put, List.setIfInBounds_toArray, List.set_cons_zero, List.set_cons_succ]
          refine wpAnyH_take (i := 7) (oi := { dst := some 35, op := Op.move (Operand.tmp 11), type := 5, pos := _, after := #[], guard := none }) (v := ?_) rfl (by kernel_rfl) (by kernel_rfl) (by kernel_rfl) (fun _ _ _ h => h) (Or.inl ⟨by rfl, ?_⟩) (by assumption) ?_
          rotate_left
          · intro w hSw
            try dsimp only at hSw
            go_simp
            try with_reducible rfl
          try simp only [Act.put, List.setIfInBounds_toArray, List.set_cons_zero, List.set_cons_succ]
          refine wpAnyH_take (i := 10) (oi := { dst := some 38, op := Op.move (Operand.tmp 0), type := 24, pos := _, after := #[], guard := none }) (v := ?_) rfl (by kernel_rfl) (by kernel_rfl) (by kernel_rfl) (fun _ _ _ h => h) (Or.inl ⟨by rfl, ?_⟩) (by assumption) ?_
          rotate_left
          · intro w hSw
            try dsimp only at hSw
            go_simp
            try with_reducible rfl
          try simp only [Act.put, List.setIfInBounds_toArray, List.set_cons_zero, List.set_cons_succ]
          refine wpAnyH_take (i := 11) (oi := { dst := some 39, op := Op.move (Operand.tmp 9), type := 22, pos := _, after := #[], guard := none }) (v := ?_) rfl (by kernel_rfl) (by kernel_rfl) (by kernel_rfl) (fun _ _ _ h => h) (Or.inl ⟨by rfl, ?_⟩) (by assumption) ?_
          rotate_left
          · intro w hSw
            try dsimp only at hSw
            go_simp
            try with_reducible rfl
          try simp only [Act.put, List.setIfInBounds_toArray, List.set_cons_zero, List.set_cons_succ]
          refine wpAnyH_take (i := 12) (oi := { dst := some 40, op := Op.move (Operand.tmp 11), type := 5, pos := _, after := #[], guard := none }) (v := ?_) rfl (by kernel_rfl) (by kernel_rfl) (by kernel_rfl) (fun _ _ _ h => h) (Or.inl ⟨by rfl, ?_⟩) (by assumption) ?_
          rotate_left
          · intro w hSw
            try dsimp only at hSw
            go_simp
            try with_reducible rfl
          try simp only [Act.put, List.setIfInBounds_toArray, List.set_cons_zero, List.set_cons_succ]
          refine wpAnyH_ready (rs := [8]) (by kernel_rfl) (by simp) ?_
          refine AllReadyH.cons (o := { dst := some 36, op := Op.call { callee := Callee.value (Operand.func 26), args := #[Operand.tmp 33, Operand.tmp 34, Operand.tmp 35], argTypes := #[24, 22, 5] }, type := 5, pos := _, after := #[{ on := 5, ground := Ground.data }, { on := 6, ground := Ground.data }, { on := 7, ground := Ground.data }], guard := none }) rfl (fun K hK => ?_) AllReadyH.nil
          go_simp
          refine (at_any wr.drew p (HR.out.2.1.keep (nextN (Mem.start wr) 1)) O out out.length co rfl (by have := HLN.out; omega) (In.own (HR.out.1.1.drewN 1) (HR.out.2.1.keep (nextN (Mem.start wr) 1))) _ x rfl).mono ?_
          rintro e w2 ⟨rfl, hF2, hf2⟩
          have H2 := Lib.hid (And.intro hF2 hf2)
          clear hF2 hf2
          try dsimp only
          refine hK.out _ _ ?_ (fun hHeld => ?_)
          · try dsimp only
            exact cellFr H2.out.2 hHeld (fun h => HIB.out (by injection h with h; exact h.symm))
          clear hK K
          try simp only [Act.put, List.setIfInBounds_toArray, List.set_cons_zero, List.set_cons_succ]
          refine wpAnyH_ready (rs := [9]) (by kernel_rfl) (by simp) ?_
          refine AllReadyH.cons (o := { dst := some 37, op := Op.call { callee := Callee.value (Operand.func 30), args := #[Operand.tmp 32, Operand.tmp 36], argTypes := #[5, 5] }, type := 5, pos := _, after := #[{ on := 4, ground := Ground.data }, { on := 8, ground := Ground.data }, { on := 8, ground := Ground.chain }], guard := none }) rfl (fun K hK => ?_) AllReadyH.nil
          go_simp
          refine (add_any _ _ y (ev out x) rfl rfl _).mono ?_
          rintro e w2b ⟨rfl, rfl⟩
          try dsimp only
          refine hK.out _ _ ?_ (fun hHeld => ?_)
          · try dsimp only
            exact hHeld
          clear hK K
          try simp only [Act.put, List.setIfInBounds_toArray, List.set_cons_zero, List.set_cons_succ]
          refine wpAnyH_ready (rs := [13]) (by kernel_rfl) (by simp) ?_
          refine AllReadyH.cons (o := { dst := some 41, op := Op.call { callee := Callee.value (Operand.func 26), args := #[Operand.tmp 38, Operand.tmp 39, Operand.tmp 40], argTypes := #[24, 22, 5] }, type := 5, pos := _, after := #[{ on := 10, ground := Ground.data }, { on := 11, ground := Ground.data }, { on := 12, ground := Ground.data }, { on := 9, ground := Ground.chain }], guard := none }) rfl (fun K hK => ?_) AllReadyH.nil
          go_simp
          refine (at_any w2 p (H2.out.1 p rfl) Q basis basis.length cq rfl (by have := HLN.out; omega) (In.own ((HR.out.1.2.drewN 1).fr H2.out.2 (fun g hg h => (In.own HR.out.1.2 HR.out.2.1).2 g 0 hg (by have := HLN.out; omega) (by injection h with h; exact h.symm))) (H2.out.1 p rfl)) _ x rfl).mono ?_
          rintro e w3 ⟨rfl, hF3, hf3⟩
          have H3 := Lib.hid (And.intro hF3 hf3)
          clear hF3 hf3
          try dsimp only
          refine hK.out _ _ ?_ (fun hHeld => ?_)
          · try dsimp only
            exact cellFr H3.out.2 hHeld (fun h => HIB.out (by injection h with h; exact h.symm))
          clear hK K
          try simp only [Act.put, List.setIfInBounds_toArray, List.set_cons_zero, List.set_cons_succ]
          refine wpAnyH_ready (rs := [14]) (by kernel_rfl) (by simp) ?_
          refine AllReadyH.cons (o := { dst := some 42, op := Op.call { callee := Callee.value (Operand.func 33), args := #[Operand.tmp 28, Operand.tmp 37, Operand.tmp 41], argTypes := #[24, 5, 5] }, type := 65, pos := _, after := #[{ on := 0, ground := Ground.data }, { on := 9, ground := Ground.data }, { on := 13, ground := Ground.data }, { on := 13, ground := Ground.chain }], guard := none }) rfl (fun K hK => ?_) AllReadyH.nil
          go_simp
          refine (div_any w3 (some p) H3.out.1 _ _ (y ^^^ ev out x) (ev basis x) rfl rfl).mono ?_
          rintro e w4 ⟨rfl, hF4, hf4⟩
          have H4 := Lib.hid (And.intro hF4 hf4)
          clear hF4 hf4
          try dsimp only
          refine hK.out _ _ ?_ (fun hHeld => ?_)
          · try dsimp only
            exact cellFr H4.out.2 hHeld (fun h => HIB.out (by injection h with h; exact h.symm))
          clear hK K
          try simp only [Act.put, List.setIfInBounds_toArray, List.set_cons_zero, List.set_cons_succ]
          refine wpAnyH_take (i := 15) (oi := { dst := some 27, op := Op.move (Operand.tmp 42), type := 65, pos := _, after := #[{ on := 14, ground := Ground.data }], guard := none }) (v := ?_) rfl (by kernel_rfl) (by kernel_rfl) (by kernel_rfl) (fun _ _ _ h => h) (Or.inl ⟨by rfl, ?_⟩) (by assumption) ?_
          rotate_left
          · intro w hSw
            try dsimp only at hSw
            go_simp
            try with_reducible rfl
          try simp only [Act.put, List.setIfInBounds_toArray, List.set_cons_zero, List.set_cons_succ]
          refine wpAnyH_take (i := 16) (oi := { dst := some 43, op := Op.extract (Operand.tmp 27) 0, type := 5, pos := _, after := #[{ on := 15, ground := Ground.data }], guard := none }) (v := ?_) rfl (by kernel_rfl) (by kernel_rfl) (by kernel_rfl) (fun _ _ _ h => h) (Or.inl ⟨by rfl, ?_⟩) (by assumption) ?_
          rotate_left
          · intro w hSw
            try dsimp only at hSw
            go_simp
            try with_reducible rfl
          try simp only [Act.put, List.setIfInBounds_toArray, List.set_cons_zero, List.set_cons_succ]
          refine wpAnyH_take (i := 17) (oi := { dst := some 44, op := Op.extract (Operand.tmp 27) 1, type := 4, pos := _, after := #[{ on := 15, ground := Ground.data }, { on := 18, ground := Ground.gcOnly Departure.lateStores }], guard := none }) (v := ?_) rfl (by kernel_rfl) (by kernel_rfl) (by kernel_rfl) (fun _ _ _ h => h) (Or.inl ⟨by rfl, ?_⟩) (by assumption) ?_
          rotate_left
          · intro w hSw
            try dsimp only at hSw
            go_simp
            try with_reducible rfl
          try simp only [Act.put, List.setIfInBounds_toArray, List.set_cons_zero, List.set_cons_succ]
          refine wpAnyH_take (i := 18) (oi := { dst := some 12, op := Op.assign (Operand.tmp 43), type := 5, pos := _, after := #[{ on := 16, ground := Ground.data }, { on := 14, ground := Ground.chain }, { on := 0, ground := Ground.phase }, { on := 1, ground := Ground.phase }, { on := 2, ground := Ground.phase }, { on := 3, ground := Ground.phase }, { on := 4, ground := Ground.phase }, { on := 5, ground := Ground.phase }, { on := 6, ground := Ground.phase }, { on := 7, ground := Ground.phase }, { on := 8, ground := Ground.phase }, { on := 9, ground := Ground.phase }, { on := 10, ground := Ground.phase }, { on := 11, ground := Ground.phase }, { on := 12, ground := Ground.phase }, { on := 13, ground := Ground.phase }, { on := 14, ground := Ground.phase }, { on := 15, ground := Ground.phase }, { on := 16, ground := Ground.phase }, { on := 17, ground := Ground.textOnly Departure.lateStores }], guard := none }) (v := ?_) rfl (by kernel_rfl) (by kernel_rfl) (by kernel_rfl) (fun _ _ _ h => h) (Or.inl ⟨by rfl, ?_⟩) (by assumption) ?_
          rotate_left
          · intro w hSw
            try dsimp only at hSw
            go_simp
            try with_reducible rfl
          try simp only [Act.put, List.setIfInBounds_toArray, List.set_cons_zero, List.set_cons_succ]
          refine wpAnyH_take (i := 19) (oi := { dst := some 13, op := Op.assign (Operand.tmp 44), type := 4, pos := _, after := #[{ on := 17, ground := Ground.data }, { on := 18, ground := Ground.chain }, { on := 0, ground := Ground.phase }, { on := 1, ground := Ground.phase }, { on := 2, ground := Ground.phase }, { on := 3, ground := Ground.phase }, { on := 4, ground := Ground.phase }, { on := 5, ground := Ground.phase }, { on := 6, ground := Ground.phase }, { on := 7, ground := Ground.phase }, { on := 8, ground := Ground.phase }, { on := 9, ground := Ground.phase }, { on := 10, ground := Ground.phase }, { on := 11, ground := Ground.phase }, { on := 12, ground := Ground.phase }, { on := 13, ground := Ground.phase }, { on := 14, ground := Ground.phase }, { on := 15, ground := Ground.phase }, { on := 16, ground := Ground.phase }, { on := 17, ground := Ground.phase }, { on := 18, ground := Ground.phase }], guard := none }) (v := ?_) rfl (by kernel_rfl) (by kernel_rfl) (by kernel_rfl) (fun _ _ _ h => h) (Or.inl ⟨by rfl, ?_⟩) (by assumption) ?_
          rotate_left
          · intro w hSw
            try dsimp only at hSw
            go_simp
            try with_reducible rfl
          try simp only [Act.put, List.setIfInBounds_toArray, List.set_cons_zero, List.set_cons_succ]
          refine wpAnyH_done (by kernel_rfl) ?_ _
          refine NoPanic.normal ?_
          have HST := Lib.hid (HT.out.step HJ.out HXY.out (by rw [HXV.out.1]; exact HB0.out))
          rw [HXV.out.1, HXV.out.2] at HST
          have HFR := Lib.hid ((((HR.out.2.2.drewN 1).trans H2.out.2 (fun k _ h => by injection h with h; exact h.symm)).trans H3.out.2 (fun k _ h => by injection h with h; exact h.symm)).trans H4.out.2 (fun k _ h => by injection h with h; exact h.symm))
          have hgt : Fr (fun k => k = p) wr w4 := ((((Fr.refl (fun k => k = p) wr).drewN 1).trans H2.out.2 (fun k _ h => by injection h with h; exact h.symm)).trans H3.out.2 (fun k _ h => by injection h with h; exact h.symm)).trans H4.out.2 (fun k _ h => by injection h with h; exact h.symm)
          have HOUT := Lib.hid (In.field (In.own HR.out.1.1 HR.out.2.1) hgt)
          have HBAS := Lib.hid (In.field (In.own HR.out.1.2 HR.out.2.1) hgt)
          have HOB := Lib.hid hgt
          have HF4 := Lib.hid (H4.out.1 p rfl)
          clear hgt
          generalize ev basis x = eb at *
          generalize ev out x = eo at *
          obtain ⟨c, hc⟩ : ∃ c, div (y ^^^ eo) eb = c := ⟨_, rfl⟩
          rw [hc] at HST ⊢
          clear hc
          have hbs1 := build1 w4 (c.toNat : Int)
          have HC1 := Lib.hid (own1 w4 c)
          have HCB := Lib.hid (nextA (Mem.start w4) (.cells #[.int .u8 (c.toNat : Int)] 5))
          go_wp2_with fail
          generalize w4.alloc (.cells #[.int .u8 (c.toNat : Int)] 5) = w5 at *
          clear hbs1
          refine (pmul_any w5 p (HF4.out.keep HCB.out) Q basis _ cq rfl (some ⟨w4.heap.size, 0, none⟩) [c] 1 1 rfl (by have := HLN.out; simp; omega) (HBAS.out.keep HCB.out) (In.own HC1.out (HF4.out.keep HCB.out))).mono ?_
          rintro e w6 ⟨M6, c6, rfl, ho6, hf6, hfr6⟩
          have hm6 : ((trim (mulP basis [c])).length : Int) ≤ 1000000 := by
            have h1 := len_mul_le basis [c]
            have h2 := len_le basis
            have h3 : len [c] ≤ 1 := len_le [c]
            have h4 := HLN.out
            have h5 : (trim (mulP basis [c])).length = len (mulP basis [c]) := rfl
            omega
          have H6 := Lib.hid (And.intro ho6 (And.intro hf6 hfr6))
          clear ho6 hf6 hfr6
          have HM6 := Lib.hid hm6
          clear hm6
          obtain ⟨mm, hmm⟩ : ∃ mm, trim (mulP basis [c]) = mm := ⟨_, rfl⟩
          rw [hmm] at HST H6 HM6 ⊢
          clear hmm
          go_wp2_with fail
          refine (padd_any w6 O out _ co rfl M6 mm _ c6 rfl (by have := HLN.out; omega) HM6.out ((HOUT.out.keep HCB.out).field H6.out.2.2).1 (H6.out.1.bytes)).mono ?_
          rintro e w7 ⟨O7, c7, rfl, ho7, hb7⟩
          have H7 := Lib.hid (And.intro ho7 hb7)
          clear ho7 hb7
          obtain ⟨out7, hout7⟩ : ∃ out7, trim (add out mm) = out7 := ⟨_, rfl⟩
          rw [hout7] at HST H7 ⊢
          clear hout7
          have hbs2 := build2 w7 (x.toNat : Int) 1
          have HC2 := Lib.hid (show Mem.Own (w7.alloc (.cells #[.int .u8 (x.toNat : Int), .int .u8 1] 5)) w7.heap.size 5 (some ⟨w7.heap.size, 0, none⟩) 2 ([x, 1].map u8v) from own2 w7 x 1)
          have HCB2 := Lib.hid (nextA (Mem.start w7) (.cells #[.int .u8 (x.toNat : Int), .int .u8 1] 5))
          have HF7 := Lib.hid (H6.out.2.1.keep H7.out.2)
          have HBAS7 := Lib.hid (((HBAS.out.keep HCB.out).field H6.out.2.2).keep H7.out.2)
          have HFR7 := Lib.hid (((HFR.out.trans (Fr.quiet (S := fun _ => False) HCB.out) (fun _ _ h => h.elim)).trans H6.out.2.2 (fun _ _ h => h)).trans (Fr.quiet (S := fun _ => False) H7.out.2) (fun _ _ h => h.elim))
          have HO7 := Lib.hid (H7.out.1.down (Nat.le_trans HR.out.2.2.size (Nat.le_trans HOB.out.size (Nat.le_trans HCB.out.size H6.out.2.2.size))))
          go_wp2_with fail
          generalize w7.alloc (.cells #[.int .u8 (x.toNat : Int), .int .u8 1] 5) = w8 at *
          clear hbs2
          refine (pmul_any w8 p (HF7.out.keep HCB2.out) Q basis _ cq rfl (some ⟨w7.heap.size, 0, none⟩) [x, 1] 2 2 rfl (by have := HLN.out; simp; omega) (HBAS7.out.keep HCB2.out) (In.own HC2.out (HF7.out.keep HCB2.out))).mono ?_
          rintro e w9 ⟨M9, c9, rfl, ho9, hf9, hfr9⟩
          have hl9 : w.heap.size ≤ w8.heap.size := Nat.le_trans HFR7.out.size HCB2.out.size
          have H9 := Lib.hid (And.intro (ho9.down hl9) (And.intro hf9 hfr9))
          have HO9 := Lib.hid ((HO7.out.keep HCB2.out).fr hfr9 (fun g hg e => by
            have h1 := HFR7.out.size
            have h2 := (HO7.out.form)
            have h3 := HP.out.lt
            rcases h2 with ⟨h2, _⟩ | ⟨g2, h2, h4, _⟩
            · rw [h2] at hg; cases hg
            · rw [h2] at hg; injection hg with hg; injection hg with hg _; omega))
          clear ho9 hf9 hfr9 hl9
          obtain ⟨b9, hb9⟩ : ∃ b9, trim (mulP basis [x, 1]) = b9 := ⟨_, rfl⟩
          rw [hb9] at HST H9 ⊢
          clear hb9
          have hjx : (j : Int) < (xs.length : Int) := by have := HJ.out; omega
          go_wp2_with fail
          go_roundw
          case rel => exact ⟨j + 1, O7, c7, out7, M9, c9, b9, rfl, rfl, rfl, HJ.out, HST.out, HO9.out, H9.out.1, H9.out.2.1, (HFR7.out.trans (Fr.quiet (S := fun _ => False) HCB2.out) (fun _ _ h => h.elim)).trans H9.out.2.2 (fun _ _ h => h)⟩
          case measure => simp [intOf]; omega
      · obtain rfl : j = xs.length := by omega
        have HD := Lib.hid (And.intro (hts.done HXY.out) (And.intro ho (And.intro hf hfr)))
        clear hts ho hq hf hfr
        go_wp2_with fail
        go_ret2
        obtain ⟨⟨h1, h2, h3⟩, h4, h5⟩ := HD.out
        exact ⟨.inl ⟨h1, out, O, co, h2, h3, rfl, h4⟩, h5⟩
  · have hne : ((xs.length : Int) != (ys.length : Int)) = true := by simp; omega
    go_enter Try.func24, Try.ntmps24
    go_wp2_with fail
    go_ret2
    exact ⟨.inr ⟨fun h => hxy h.1, rfl⟩, HP.out, Fr.refl _ _⟩
end Go.Proofs.Ytciilojlfaihjaa.PlW
