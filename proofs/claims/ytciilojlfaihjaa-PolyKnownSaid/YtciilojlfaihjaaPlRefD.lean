/- The document's quotient and rest. -/
import Derived.Test.YtciilojlfaihjaaPlRefC
namespace Go.Proofs.Ytciilojlfaihjaa.PlW
open Go.RowKit Mem Gf FdW Pl Rng
set_option linter.unusedVariables false

/-- What the document's Div leaves. -/
def RDivF (w : World) (a b : List UInt8) (e : Ending) (w' : World) : Prop :=
  ∃ q r A c B d, DivOk a b q r ∧ e = .returned (.tuple #[.slice A (trim q).length c, .slice B (trim r).length d, .int .i64 0]) ∧ Mem.Own w' w.heap.size 5 A c ((trim q).map u8v) ∧ Mem.Own w' w.heap.size 5 B d ((trim r).map u8v) ∧ Below w.heap.size w w'
/-- The state of the document's division. -/
def RS (a d q r : List UInt8) (n : Nat) : Prop := trim q = q ∧ trim r = r ∧ Eqv a (add (mulP q d) r) ∧ q.length ≤ n ∧ r.length ≤ n
theorem RS.start (a d : List UInt8) : RS a d [] (trim a) a.length := ⟨rfl, trim_trim a, fun i => by rw [cf_add, show mulP [] d = [] from rfl, cf_nil, UInt8.zero_xor, cf_trim], Nat.zero_le _, trim_len a⟩
theorem RS.step {a d q r : List UInt8} {n m : Nat} (h : RS a d q r n) (hd : trim d = d) (h0 : d ≠ []) (hm : r.length = m + d.length) :
    RS a d (trim (add q (sh m [div (cf r (r.length - 1)) (cf d (d.length - 1))]))) (trim (add r (trim (mulP (sh m [div (cf r (r.length - 1)) (cf d (d.length - 1))]) d)))) n ∧
      (trim (add r (trim (mulP (sh m [div (cf r (r.length - 1)) (cf d (d.length - 1))]) d)))).length < r.length := by
  obtain ⟨h1, h2, h3, h4, h5⟩ := h
  have hdl : 0 < d.length := by cases d with
    | nil => exact absurd rfl h0
    | cons x s => simp
  have hy : cf d (d.length - 1) ≠ 0 := by
    have := trim_last d (by rw [hd]; exact h0)
    rwa [hd] at this
  obtain ⟨c, hc⟩ : ∃ c, div (cf r (r.length - 1)) (cf d (d.length - 1)) = c := ⟨_, rfl⟩
  rw [hc]
  have hmm : Eqv (trim (mulP (sh m [c]) d)) (sh m (sc c d)) := (trim_eqv _).trans ((sh_mulP m [c] d).trans (sh_congr (mulP_one c d)))
  have hr' : Eqv (trim (add r (trim (mulP (sh m [c]) d)))) (add r (sh m (sc c d))) := (trim_eqv _).trans (add_congr (Eqv.refl _) hmm)
  have hl : (trim (add r (trim (mulP (sh m [c]) d)))).length ≤ r.length - 1 := by
    rw [trim_len_of (add_congr (Eqv.refl r) hmm)]
    refine len_of fun i hi => ?_
    rw [cf_add, cf_sh, cf_sc, if_pos (by omega)]
    by_cases e : i = r.length - 1
    · subst e
      rw [show r.length - 1 - m = d.length - 1 by omega, ← hc, div_mul hy, UInt8.xor_self]
    · rw [cf_ge (l := r) (by omega), cf_ge (l := d) (by omega), mul_zero]; rfl
  refine ⟨⟨trim_trim _, trim_trim _, div_step h3 (trim_eqv _) hr', ?_, by omega⟩, by omega⟩
  have := add_len_le q (sh m [c])
  have h6 : (sh m [c]).length = m + 1 := by simp [sh]
  omega
theorem RS.done {a b q r : List UInt8} {n : Nat} (h : RS a (trim b) q r n) (hl : r.length < (trim b).length) : DivOk a b q r :=
  ⟨h.2.2.1.trans (add_congr (mulP_right (trim_eqv b) q) (Eqv.refl _)), by
    have : len r ≤ r.length := len_le r
    show len r < (trim b).length
    omega⟩

set_option maxRecDepth 100000 in
set_option maxHeartbeats 2000000 in
theorem rpDiv_none (w : World) (A : Option Addr) (a : List UInt8) (n ca : Nat) (B : Option Addr) (b : List UInt8) (m cb : Nat) (hm : m = b.length) (hlb : (b.length : Int) ≤ 400) (hcb : b.length ≤ cb) (hB : Bytes w w.heap.size B b) (hb : len b = 0) :
    Calls Try.prog 15 #[.slice A n ca, .slice B m cb] w fun e w' => e = .returned (.tuple #[.slice none 0 0, .slice none 0 0, .int .i64 30]) ∧ Below w.heap.size w w' := by
  subst hm
  have HB := Lib.hid hB
  have HN := Lib.hid (show (trim b).length = 0 from hb)
  have HL := Lib.hid (And.intro hlb hcb)
  clear hB hb
  go_enter Try.func15, Try.ntmps15
  go_wp2_with fail
  refine (rpTrim_any w B b b.length cb rfl (by omega) hcb HB.out).mono ?_
  rintro e w1 ⟨B1, c1, rfl, ho1, hb1⟩
  rw [HN.out]
  have H1 := Lib.hid hb1
  clear ho1 hb1
  go_wp2_with fail
  go_ret3
  exact ⟨rfl, H1.out⟩
set_option maxRecDepth 100000 in
set_option maxHeartbeats 2000000 in
theorem rpDiv_any (w : World) (A : Option Addr) (a : List UInt8) (n ca : Nat) (hn : n = a.length) (B : Option Addr) (b : List UInt8) (m cb : Nat) (hm : m = b.length) (hla : (a.length : Int) ≤ 400) (hlb : (b.length : Int) ≤ 400) (hca : a.length ≤ ca) (hcb : b.length ≤ cb) (hA : Bytes w w.heap.size A a) (hB : Bytes w w.heap.size B b) (hb : len b ≠ 0) :
    Calls Try.prog 15 #[.slice A n ca, .slice B m cb] w (RDivF w a b) := by
  obtain ⟨i0, hi0, hz0, hz1, hz2⟩ := info_parts u8info
  subst hn; subst hm
  have HA := Lib.hid hA
  have HB := Lib.hid hB
  have HL := Lib.hid (And.intro (And.intro hla hlb) (And.intro hca hcb))
  have hdl : (trim b).length ≤ b.length := trim_len b
  have hd0 : (trim b).length ≠ 0 := hb
  have HTD := Lib.hid (trim_trim b)
  clear hA hB hb
  go_enter Try.func15, Try.ntmps15
  go_wp2_with fail
  refine (rpTrim_any w B b b.length cb rfl (by omega) hcb HB.out).mono ?_
  rintro e w1 ⟨B1, c1, rfl, ho1, hb1⟩
  obtain ⟨d, hd⟩ : ∃ d, trim b = d := ⟨_, rfl⟩
  rw [hd] at ho1 hdl hd0 HTD ⊢
  have HD := Lib.hid hd
  have hdz : ((d.length : Int) == 0) = false := by simpa using hd0
  have hdl9 : (d.length : Int) ≤ 400 := by omega
  have hd1 : (0 : Int) < (d.length : Int) := by omega
  have H1 := Lib.hid (And.intro ho1 hb1)
  clear ho1 hb1 hd
  go_wp2_with fail
  refine (rpTrim_any w1 A a a.length ca rfl (by omega) hca ((HA.out.below H1.out.2).up H1.out.2.size)).mono ?_
  rintro e w2 ⟨R2, c2, rfl, ho2, hb2⟩
  have H2 := Lib.hid (And.intro ho2 (And.intro (H1.out.2.trans (hb2.mono H1.out.2.size)) hb2))
  clear ho2 hb2
  obtain ⟨wa, hwa⟩ : ∃ wa : World, wa = w2 := ⟨_, rfl⟩
  have HOB := Lib.hid (show Mem.Own w2 w.heap.size 5 B1 c1 (d.map u8v) from H1.out.1.keep H2.out.2.2)
  go_wp2_with fail
  go_loopw [8, 9] (fun s t wr => ∃ (q r : List UInt8) (Q R : Option Addr) (cq cr : Nat), s = .slice R r.length cr ∧ t = .slice Q q.length cq ∧ RS a d q r a.length ∧ Mem.Own wr w.heap.size 5 Q cq (q.map u8v) ∧ Mem.Own wr w.heap.size 5 R cr (r.map u8v) ∧ Below w2.heap.size w2 wr) (fun s _ _ => match s with | .slice _ n _ => n | _ => 0)
  case atStart => exact ⟨[], trim a, none, R2, 0, c2, rfl, rfl, RS.start a d, Own.nil, H2.out.1.down H1.out.2.size, Below.refl _ _⟩
  case round =>
    obtain ⟨q, r, Q, R, cq, cr, rfl, rfl, hrs, hoq, hor, hbw⟩ := hrel
    have HR := Lib.hid (And.intro (And.intro hoq hor) (And.intro hbw (HOB.out.keep hbw)))
    have hrl : (r.length : Int) ≤ 400 := by have := hrs.2.2.2.2; omega
    have hql : (q.length : Int) ≤ 400 := by have := hrs.2.2.2.1; omega
    have HS := Lib.hid hrs
    clear hoq hor hbw hrs
    by_cases hge : d.length ≤ r.length
    · have hgi : (d.length : Int) ≤ (r.length : Int) := by omega
      obtain ⟨m, hm⟩ : ∃ m, r.length = m + d.length := ⟨r.length - d.length, by omega⟩
      have hmi : (r.length : Int) - (d.length : Int) = (m : Int) := by omega
      have hm9 : (m : Int) ≤ 400 := by omega
      have HST := Lib.hid (HS.out.step HTD.out (by intro e; rw [e] at hd0; exact hd0 rfl) hm)
      obtain ⟨g1, hg1, hg2, hg3, hc1, _⟩ := HR.out.1.2.at_ (k := r.length - 1) (by simp; omega)
      obtain ⟨g2, hg4, hg5, hg6, hc2, _⟩ := HR.out.2.2.at_ (k := d.length - 1) (by simp; omega)
      have hc1' : wr.cell? ⟨g1, r.length - 1, none⟩ = some (.int .u8 ((cf r (r.length - 1)).toNat : Int)) := by
        rw [hc1, List.getElem_map, cf_lt (show r.length - 1 < r.length by omega)]; rfl
      have hc2' : wr.cell? ⟨g2, d.length - 1, none⟩ = some (.int .u8 ((cf d (d.length - 1)).toNat : Int)) := by
        rw [hc2, List.getElem_map, cf_lt (show d.length - 1 < d.length by omega)]; rfl
      have HM := Lib.hid hm
      subst hg1
      subst hg4
      obtain ⟨x, hx⟩ : ∃ x, cf r (r.length - 1) = x := ⟨_, rfl⟩
      obtain ⟨y, hy⟩ : ∃ y, cf d (d.length - 1) = y := ⟨_, rfl⟩
      rw [hx, hy] at HST
      rw [hx] at hc1'
      rw [hy] at hc2'
      clear hx hy hc1 hc2 hg2 hg3 hg5 hg6 hge hm
      have hr1 : (0 : Int) < (r.length : Int) := by omega
      have hw1 : IntKind.i64.wrap ((r.length : Int) - 1) = (r.length : Int) - 1 := IntWalk.i64_in _ (by omega)
      have hw2 : IntKind.i64.wrap ((d.length : Int) - 1) = (d.length : Int) - 1 := IntWalk.i64_in _ (by omega)
      have hn1 : ((r.length : Int) - 1).toNat = r.length - 1 := by omega
      have hn2 : ((d.length : Int) - 1).toNat = d.length - 1 := by omega
      have hp1 : (0 : Int) ≤ (r.length : Int) - 1 := by omega
      have hp2 : (0 : Int) ≤ (d.length : Int) - 1 := by omega
      have hp3 : (1 : Int) ≤ (r.length : Int) := by omega
      have hp4 : (1 : Int) ≤ (d.length : Int) := by omega
      have hp5 : (r.length : Int) - 1 < (r.length : Int) := by omega
      have hp6 : (d.length : Int) - 1 < (d.length : Int) := by omega
      go_wp2_with fail
      --HELD
      refine wp_region_noPanic ?_
      refine wp_region_held_drew (S := fun w' => w'.cell? ⟨g1, r.length - 1, none⟩ = some (.int .u8 (x.toNat : Int)) ∧ w'.cell? ⟨g2, d.length - 1, none⟩ = some (.int .u8 (y.toNat : Int))) (by kernel_rfl) ?hs0 ?rg0
      case hs0 =>
        exact ⟨hc1', hc2'⟩
      case rg0 =>
      intro hHeld
      refine wpAnyH_take (i := 0) (oi := { dst := some 26, op := Op.move (Operand.tmp 8), type := 22, pos := _, after := #[], guard := none }) (v := ?_) rfl (by kernel_rfl) (by kernel_rfl) (by kernel_rfl) (fun _ _ _ h => h) (Or.inl ⟨by rfl, ?_⟩) (by assumption) ?_
      rotate_left
      · intro w hSw
        try dsimp only at hSw
        go_simp
        try with_reducible rfl
      try simp only [Act.put, List.setIfInBounds_toArray, List.set_cons_zero, List.set_cons_succ]
      refine wpAnyH_take (i := 1) (oi := { dst := some 27, op := Op.move (Operand.tmp 8), type := 22, pos := _, after := #[], guard := none }) (v := ?_) rfl (by kernel_rfl) (by kernel_rfl) (by kernel_rfl) (fun _ _ _ h => h) (Or.inl ⟨by rfl, ?_⟩) (by assumption) ?_
      rotate_left
      · intro w hSw
        try dsimp only at hSw
        go_simp
        try with_reducible rfl
      try simp only [Act.put, List.setIfInBounds_toArray, List.set_cons_zero, List.set_cons_succ]
      refine wpAnyH_take (i := 2) (oi := { dst := some 28, op := Op.call { callee := Callee.builtin Builtin.len, args := #[Operand.tmp 27], argTypes := #[22] }, type := 3, pos := _, after := #[{ on := 1, ground := Ground.data }], guard := none }) (v := ?_) rfl (by kernel_rfl) (by kernel_rfl) (by kernel_rfl) (fun _ _ _ h => h) (Or.inl ⟨by rfl, ?_⟩) (by assumption) ?_
      rotate_left
      · intro w hSw
        try dsimp only at hSw
        go_simp
        try with_reducible rfl
      try simp only [Act.put, List.setIfInBounds_toArray, List.set_cons_zero, List.set_cons_succ]
      refine wpAnyH_take (i := 3) (oi := { dst := some 29, op := Op.binOp BinOp.sub 3 (Operand.tmp 28) (Operand.const (Value.int IntKind.i64 1)) 3, type := 3, pos := _, after := #[{ on := 2, ground := Ground.data }], guard := none }) (v := ?_) rfl (by kernel_rfl) (by kernel_rfl) (by kernel_rfl) (fun _ _ _ h => h) (Or.inl ⟨by rfl, ?_⟩) (by assumption) ?_
      rotate_left
      · intro w hSw
        try dsimp only at hSw
        go_simp
        try with_reducible rfl
      try simp only [Act.put, List.setIfInBounds_toArray, List.set_cons_zero, List.set_cons_succ]
      refine wpAnyH_take (i := 4) (oi := { dst := some 30, op := Op.indexAddr 22 (Operand.tmp 26) (Operand.tmp 29), type := 0, pos := _, after := #[{ on := 0, ground := Ground.data }, { on := 3, ground := Ground.data }], guard := none }) (v := ?_) rfl (by kernel_rfl) (by kernel_rfl) (by kernel_rfl) (fun _ _ _ h => h) (Or.inl ⟨by rfl, ?_⟩) (by assumption) ?_
      rotate_left
      · intro w hSw
        try dsimp only at hSw
        go_simp
        try with_reducible rfl
      try simp only [Act.put, List.setIfInBounds_toArray, List.set_cons_zero, List.set_cons_succ]
      refine wpAnyH_take (i := 5) (oi := { dst := some 31, op := Op.load 5 (Operand.tmp 30), type := 5, pos := _, after := #[{ on := 4, ground := Ground.data }], guard := none }) (v := ?_) rfl (by kernel_rfl) (by kernel_rfl) (by kernel_rfl) (fun _ _ _ h => h) (Or.inl ⟨by rfl, ?_⟩) (by assumption) ?_
      rotate_left
      · intro w hSw
        try dsimp only at hSw
        go_simp
        try with_reducible rfl
      try simp only [Act.put, List.setIfInBounds_toArray, List.set_cons_zero, List.set_cons_succ]
      refine wpAnyH_take (i := 6) (oi := { dst := some 32, op := Op.move (Operand.tmp 7), type := 22, pos := _, after := #[], guard := none }) (v := ?_) rfl (by kernel_rfl) (by kernel_rfl) (by kernel_rfl) (fun _ _ _ h => h) (Or.inl ⟨by rfl, ?_⟩) (by assumption) ?_
      rotate_left
      · intro w hSw
        try dsimp only at hSw
        go_simp
        try with_reducible rfl
      try simp only [Act.put, List.setIfInBounds_toArray, List.set_cons_zero, List.set_cons_succ]
      refine wpAnyH_take (i := 7) (oi := { dst := some 33, op := Op.move (Operand.tmp 7), type := 22, pos := _, after := #[], guard := none }) (v := ?_) rfl (by kernel_rfl) (by kernel_rfl) (by kernel_rfl) (fun _ _ _ h => h) (Or.inl ⟨by rfl, ?_⟩) (by assumption) ?_
      rotate_left
      · intro w hSw
        try dsimp only at hSw
        go_simp
        try with_reducible rfl
      try simp only [Act.put, List.setIfInBounds_toArray, List.set_cons_zero, List.set_cons_succ]
      refine wpAnyH_take (i := 8) (oi := { dst := some 34, op := Op.call { callee := Callee.builtin Builtin.len, args := #[Operand.tmp 33], argTypes := #[22] }, type := 3, pos := _, after := #[{ on := 7, ground := Ground.data }], guard := none }) (v := ?_) rfl (by kernel_rfl) (by kernel_rfl) (by kernel_rfl) (fun _ _ _ h => h) (Or.inl ⟨by rfl, ?_⟩) (by assumption) ?_
      rotate_left
      · intro w hSw
        try dsimp only at hSw
        go_simp
        try with_reducible rfl
      try simp only [Act.put, List.setIfInBounds_toArray, List.set_cons_zero, List.set_cons_succ]
      refine wpAnyH_take (i := 9) (oi := { dst := some 35, op := Op.binOp BinOp.sub 3 (Operand.tmp 34) (Operand.const (Value.int IntKind.i64 1)) 3, type := 3, pos := _, after := #[{ on := 8, ground := Ground.data }], guard := none }) (v := ?_) rfl (by kernel_rfl) (by kernel_rfl) (by kernel_rfl) (fun _ _ _ h => h) (Or.inl ⟨by rfl, ?_⟩) (by assumption) ?_
      rotate_left
      · intro w hSw
        try dsimp only at hSw
        go_simp
        try with_reducible rfl
      try simp only [Act.put, List.setIfInBounds_toArray, List.set_cons_zero, List.set_cons_succ]
      refine wpAnyH_take (i := 10) (oi := { dst := some 36, op := Op.indexAddr 22 (Operand.tmp 32) (Operand.tmp 35), type := 0, pos := _, after := #[{ on := 6, ground := Ground.data }, { on := 9, ground := Ground.data }], guard := none }) (v := ?_) rfl (by kernel_rfl) (by kernel_rfl) (by kernel_rfl) (fun _ _ _ h => h) (Or.inl ⟨by rfl, ?_⟩) (by assumption) ?_
      rotate_left
      · intro w hSw
        try dsimp only at hSw
        go_simp
        try with_reducible rfl
      try simp only [Act.put, List.setIfInBounds_toArray, List.set_cons_zero, List.set_cons_succ]
      refine wpAnyH_take (i := 11) (oi := { dst := some 37, op := Op.load 5 (Operand.tmp 36), type := 5, pos := _, after := #[{ on := 10, ground := Ground.data }], guard := none }) (v := ?_) rfl (by kernel_rfl) (by kernel_rfl) (by kernel_rfl) (fun _ _ _ h => h) (Or.inl ⟨by rfl, ?_⟩) (by assumption) ?_
      rotate_left
      · intro w hSw
        try dsimp only at hSw
        go_simp
        try with_reducible rfl
      try simp only [Act.put, List.setIfInBounds_toArray, List.set_cons_zero, List.set_cons_succ]
      refine wpAnyH_ready (rs := [12]) (by kernel_rfl) (by simp) ?_
      refine AllReadyH.cons (o := { dst := some 38, op := Op.call { callee := Callee.value (Operand.func 35), args := #[Operand.tmp 31, Operand.tmp 37], argTypes := #[5, 5] }, type := 65, pos := _, after := #[{ on := 5, ground := Ground.data }, { on := 11, ground := Ground.data }], guard := none }) rfl (fun K hK => ?_) AllReadyH.nil
      go_simp
      refine (refDiv_any _ _ x y rfl rfl _).mono ?_
      rintro e w3 ⟨rfl, rfl⟩
      try dsimp only
      refine hK.out _ _ ?_ (fun hHeld => ?_)
      · try dsimp only
        exact hHeld
      clear hK K
      try simp only [Act.put, List.setIfInBounds_toArray, List.set_cons_zero, List.set_cons_succ]
      refine wpAnyH_take (i := 13) (oi := { dst := some 25, op := Op.move (Operand.tmp 38), type := 65, pos := _, after := #[{ on := 12, ground := Ground.data }], guard := none }) (v := ?_) rfl (by kernel_rfl) (by kernel_rfl) (by kernel_rfl) (fun _ _ _ h => h) (Or.inl ⟨by rfl, ?_⟩) (by assumption) ?_
      rotate_left
      · intro w hSw
        try dsimp only at hSw
        go_simp
        try with_reducible rfl
      try simp only [Act.put, List.setIfInBounds_toArray, List.set_cons_zero, List.set_cons_succ]
      refine wpAnyH_take (i := 14) (oi := { dst := some 39, op := Op.extract (Operand.tmp 25) 0, type := 5, pos := _, after := #[{ on := 13, ground := Ground.data }], guard := none }) (v := ?_) rfl (by kernel_rfl) (by kernel_rfl) (by kernel_rfl) (fun _ _ _ h => h) (Or.inl ⟨by rfl, ?_⟩) (by assumption) ?_
      rotate_left
      · intro w hSw
        try dsimp only at hSw
        go_simp
        try with_reducible rfl
      try simp only [Act.put, List.setIfInBounds_toArray, List.set_cons_zero, List.set_cons_succ]
      refine wpAnyH_take (i := 15) (oi := { dst := some 40, op := Op.extract (Operand.tmp 25) 1, type := 4, pos := _, after := #[{ on := 13, ground := Ground.data }, { on := 16, ground := Ground.gcOnly Departure.lateStores }], guard := none }) (v := ?_) rfl (by kernel_rfl) (by kernel_rfl) (by kernel_rfl) (fun _ _ _ h => h) (Or.inl ⟨by rfl, ?_⟩) (by assumption) ?_
      rotate_left
      · intro w hSw
        try dsimp only at hSw
        go_simp
        try with_reducible rfl
      try simp only [Act.put, List.setIfInBounds_toArray, List.set_cons_zero, List.set_cons_succ]
      refine wpAnyH_take (i := 16) (oi := { dst := some 10, op := Op.assign (Operand.tmp 39), type := 5, pos := _, after := #[{ on := 14, ground := Ground.data }, { on := 12, ground := Ground.chain }, { on := 0, ground := Ground.phase }, { on := 1, ground := Ground.phase }, { on := 2, ground := Ground.phase }, { on := 3, ground := Ground.phase }, { on := 4, ground := Ground.phase }, { on := 5, ground := Ground.phase }, { on := 6, ground := Ground.phase }, { on := 7, ground := Ground.phase }, { on := 8, ground := Ground.phase }, { on := 9, ground := Ground.phase }, { on := 10, ground := Ground.phase }, { on := 11, ground := Ground.phase }, { on := 12, ground := Ground.phase }, { on := 13, ground := Ground.phase }, { on := 14, ground := Ground.phase }, { on := 15, ground := Ground.textOnly Departure.lateStores }], guard := none }) (v := ?_) rfl (by kernel_rfl) (by kernel_rfl) (by kernel_rfl) (fun _ _ _ h => h) (Or.inl ⟨by rfl, ?_⟩) (by assumption) ?_
      rotate_left
      · intro w hSw
        try dsimp only at hSw
        go_simp
        try with_reducible rfl
      try simp only [Act.put, List.setIfInBounds_toArray, List.set_cons_zero, List.set_cons_succ]
      refine wpAnyH_take (i := 17) (oi := { dst := some 11, op := Op.assign (Operand.tmp 40), type := 4, pos := _, after := #[{ on := 15, ground := Ground.data }, { on := 16, ground := Ground.chain }, { on := 0, ground := Ground.phase }, { on := 1, ground := Ground.phase }, { on := 2, ground := Ground.phase }, { on := 3, ground := Ground.phase }, { on := 4, ground := Ground.phase }, { on := 5, ground := Ground.phase }, { on := 6, ground := Ground.phase }, { on := 7, ground := Ground.phase }, { on := 8, ground := Ground.phase }, { on := 9, ground := Ground.phase }, { on := 10, ground := Ground.phase }, { on := 11, ground := Ground.phase }, { on := 12, ground := Ground.phase }, { on := 13, ground := Ground.phase }, { on := 14, ground := Ground.phase }, { on := 15, ground := Ground.phase }, { on := 16, ground := Ground.phase }], guard := none }) (v := ?_) rfl (by kernel_rfl) (by kernel_rfl) (by kernel_rfl) (fun _ _ _ h => h) (Or.inl ⟨by rfl, ?_⟩) (by assumption) ?_
      rotate_left
      · intro w hSw
        try dsimp only at hSw
        go_simp
        try with_reducible rfl
      try simp only [Act.put, List.setIfInBounds_toArray, List.set_cons_zero, List.set_cons_succ]
      refine wpAnyH_done (by kernel_rfl) ?_ _
      refine NoPanic.normal ?_
      have HBW := Lib.hid (HR.out.2.1.trans ((nextN (Mem.start wr) 1).mono HR.out.2.1.size))
      have HDR := Lib.hid (nextN (Mem.start wr) 1)
      have HO3 := Lib.hid (And.intro (HR.out.1.1.drewN 1) (And.intro (HR.out.1.2.drewN 1) (HR.out.2.2.drewN 1)))
      rw [show wr.drewN 1 = wr.drew from rfl] at HBW HDR HO3
      clear hHeld hc1' hc2' hw1 hw2 hn1 hn2 hp1 hp2 hp5 hp6
      obtain ⟨w3, hw3⟩ : ∃ w3, wr.drew = w3 := ⟨_, rfl⟩
      rw [hw3] at HBW HDR HO3 ⊢
      have HW3 := Lib.hid hw3
      clear hw3
      generalize div x y = c at *
      generalize nz y = nzy at *
      have hmi2 : (r.length : Int) - (d.length : Int) = (m : Int) := hmi
      have hOz := own_made w3 (Array.replicate m (Value.int .u8 0)) 5 (by simp [maxLen]; omega) (Nat.le_refl w3.heap.size)
      rw [Array.toList_replicate] at hOz
      have HZ := Lib.hid (show Mem.Own (w3.alloc (.cells (Array.replicate m (.int .u8 0)) 5)) w3.heap.size 5 (some ⟨w3.heap.size, 0, none⟩) m ((List.replicate m (0 : UInt8)).map u8v) from by
        have e : (List.replicate m (0 : UInt8)).map u8v = List.replicate m (Value.int .u8 0) := by simp [u8v]
        rw [e]; simpa using hOz)
      have HZB := Lib.hid (nextA (Mem.start w3) (.cells (Array.replicate m (Value.int .u8 0)) 5))
      have hcl := cells_one (w3.alloc (.cells (Array.replicate m (.int .u8 0)) 5)) (.int .u8 (c.toNat : Int)) 5 (w3.heap.size + 2) (by simp)
      rw [World.size_alloc] at hcl
      have HCL := Lib.hid hcl
      clear hOz hcl
      have hbs := build1 (w3.alloc (.cells (Array.replicate m (.int .u8 0)) 5)) (c.toNat : Int)
      go_wp2_with (first
        | ((with_reducible show wpList _ _ _ ((⟨some 46, _, _, _, _, _⟩ : Oper) :: _) _ _); refine wpList_mk rfl _ _ _ rfl 5 i0 1 (.int .u8 0) Try.underlying22 hi0 hz0 hz1 hz2 rfl _ m rfl rfl (by first | rfl | exact hmi2) (by omega) (by unfold maxLen; omega) m rfl ?_)
        | ((with_reducible show wpList _ _ _ ((⟨some 50, _, _, _, _, _⟩ : Oper) :: _) _ _); refine wpList_app _ rfl _ _ _ rfl w3.heap.size 5 i0 _ 1 Try.underlying22 hi0 hz0 hz1 hz2 rfl (some ⟨w3.heap.size, 0, none⟩) m m ((List.replicate m (0 : UInt8)).map u8v) rfl (by simp) (HZ.out.alloc _) (w3.heap.size + 2) (some ⟨w3.heap.size + 1, 0, none⟩) 1 1 [.int .u8 (c.toNat : Int)] rfl rfl HCL.out (fun u hu => by simp at hu; subst hu; rfl) (by simp [maxLen]; omega) (by simp; omega) (by have := HZB.out.size; simp; omega) (m + 1) rfl ?_; intro T5 c5 w5 ho5 hb5 _ _))
      have HT5 := Lib.hid (show Mem.Own w5 w3.heap.size 5 T5 c5 ((sh m [c]).map u8v) from by
        have := own_snoc (x := c) ho5 rfl
        exact this)
      have HB5 := Lib.hid (show Below w3.heap.size w3 w5 from HZB.out.trans (((nextA (Mem.start _) _).mono HZB.out.size).trans hb5))
      have HSM := Lib.hid (show m + 1 = (sh m [c]).length from by simp [sh])
      clear ho5 hb5 hbs
      have hsl : ((sh m [c]).length : Int) ≤ 401 := by have := HSM.out; omega
      go_wp2_with fail
      refine (rpAdd_any w5 Q q _ cq rfl T5 (sh m [c]) (m + 1) c5 HSM.out (by omega) (by omega) ((HO3.out.1.bytes.below HB5.out).up HB5.out.size) HT5.out.bytes).mono ?_
      rintro e w6 ⟨Q6, c6, rfl, ho6, hb6⟩
      have H6 := Lib.hid (And.intro ho6 hb6)
      clear ho6 hb6
      obtain ⟨q6, hq6⟩ : ∃ q6, trim (add q (sh m [c])) = q6 := ⟨_, rfl⟩
      rw [hq6] at HST H6 ⊢
      clear hq6
      go_wp2_with fail
      refine (rpMul_any w6 T5 (sh m [c]) (m + 1) c5 HSM.out (some ⟨g2, 0, none⟩) d _ c1 rfl (by omega) ((HT5.out.bytes.below H6.out.2).up H6.out.2.size) ((((HO3.out.2.2.bytes.below HB5.out).up HB5.out.size).below H6.out.2).up H6.out.2.size)).mono ?_
      rintro e w7 ⟨M7, c7, rfl, ho7, hb7⟩
      have hmlen : ((trim (mulP (sh m [c]) d)).length : Int) ≤ 1000 := by
        have h1 := len_mul_le (sh m [c]) d
        have h2 := len_le (sh m [c])
        have h3 := len_le d
        have h4 : (trim (mulP (sh m [c]) d)).length = len (mulP (sh m [c]) d) := rfl
        omega
      have H7 := Lib.hid (And.intro ho7 hb7)
      clear ho7 hb7
      obtain ⟨m7, hm7⟩ : ∃ m7, trim (mulP (sh m [c]) d) = m7 := ⟨_, rfl⟩
      rw [hm7] at HST H7 hmlen ⊢
      clear hm7
      go_wp2_with fail
      refine (rpAdd_any w7 (some ⟨g1, 0, none⟩) r _ cr rfl M7 m7 _ c7 rfl (by omega) (by omega) ((((((HO3.out.2.1.bytes.below HB5.out).up HB5.out.size).below H6.out.2).up H6.out.2.size).below H7.out.2).up H7.out.2.size) H7.out.1.bytes).mono ?_
      rintro e w8 ⟨R8, c8, rfl, ho8, hb8⟩
      have H8 := Lib.hid (And.intro ho8 hb8)
      clear ho8 hb8
      obtain ⟨r8, hr8⟩ : ∃ r8, trim (add r m7) = r8 := ⟨_, rfl⟩
      rw [hr8] at HST H8 ⊢
      clear hr8
      have HALL := Lib.hid (((HB5.out.trans (H6.out.2.mono HB5.out.size)).trans (H7.out.2.mono (Nat.le_trans HB5.out.size H6.out.2.size))).trans (H8.out.2.mono (Nat.le_trans (Nat.le_trans HB5.out.size H6.out.2.size) H7.out.2.size)))
      have HSZ := Lib.hid (show w.heap.size ≤ w3.heap.size from by have h1 := H2.out.2.1.size; have h2 := HBW.out.size; omega)
      go_wp2_with fail
      go_roundw
      case rel => exact ⟨q6, r8, Q6, R8, c6, c8, rfl, rfl, HST.out.1, ((H6.out.1.keep H7.out.2).keep H8.out.2).down (Nat.le_trans HSZ.out HB5.out.size), H8.out.1.down (Nat.le_trans HSZ.out (Nat.le_trans (Nat.le_trans HB5.out.size H6.out.2.size) H7.out.2.size)), HBW.out.trans (HALL.out.mono HBW.out.size)⟩
      case measure => exact HST.out.2
      --END
    · have hgi : ¬ (d.length : Int) ≤ (r.length : Int) := by omega
      have HDN := Lib.hid (RS.done (b := b) (by rw [HD.out]; exact HS.out) (by rw [HD.out]; omega))
      have HTT := Lib.hid (And.intro HS.out.1 HS.out.2.1)
      clear hge
      go_wp2_with fail
      go_ret3
      refine ⟨q, r, Q, cq, R, cr, HDN.out, by rw [HTT.out.1, HTT.out.2]; rfl, by rw [HTT.out.1]; exact HR.out.1.1, by rw [HTT.out.2]; exact HR.out.1.2, H2.out.2.1.trans (HR.out.2.1.mono H2.out.2.1.size)⟩
end Go.Proofs.Ytciilojlfaihjaa.PlW
