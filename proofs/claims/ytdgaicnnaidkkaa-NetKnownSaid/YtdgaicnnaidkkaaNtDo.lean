/- The law's helper does. -/
import Derived.Test.YtdgaicnnaidkkaaNtLg
import Derived.Deep.DeepCutAuto
import Derived.Deep.CutBlock
namespace Go.Proofs.Ytdgaicnnaidkkaa.NtW
open Go.RowKit Go.Shelf Mem Rng
set_option linter.unusedVariables false

/-- What does and tells leave: true, and the two nets hold the same. -/
def SameOk (w0 : World) (p q most : Nat) (e : Ending) (w' : World) : Prop := e = .returned (.bool true) ∧ ∃ L, LS w0 p q most L L (fun _ => False) w'
def xcells (x : Open.OneC) : Array Value := #[.int .u8 (x.k.toNat : Int), .int .i64 x.n, .slice x.A x.b.length x.c]
/-- Two blocks of the law's own. -/
def XP (b i k : Nat) : Prop := k = b ∨ k = i
/-- A message taken, in a block of the law's own. -/
def LGotX (w0 : World) (p q most : Nat) (X : Nat → Prop) (w : World) (L M : List (List UInt8)) (v : Option (List UInt8)) (e : Ending) (w' : World) : Prop :=
  ∃ B c, e = .returned (.tuple #[.slice B (v.getD []).length c, .bool v.isSome]) ∧ Mem.Own w' w.heap.size 5 B c ((v.getD []).map u8v) ∧ LS w0 p q most L M (fun k => X k ∨ B = some ⟨k, 0, none⟩) w' ∧ Fr (fun k => ¬ X k) w w'
theorem takeLX {w0 w : World} {p q most : Nat} {L M : List (List UInt8)} {X : Nat → Prop} (h : LS w0 p q most L M X w) (i : Int) : Calls Try.prog 8 #[.pointer (some ⟨p, 0, none⟩), .int .i64 i] w (LGotX w0 p q most X w (if (atV L i).isSome then L.eraseIdx i.toNat else L) M (atV L i)) := by
  obtain ⟨F, G, h1, h2, h3, h4, h5, h6⟩ := h
  refine (take_any F p most L w h1 i).mono fun e w' ⟨B, c, he, k1, k2, k3⟩ => ?_
  have hs := LS.netTurn h2 h3 h4 h5 h6 k2 (fun _ h => .inl h) k3
  obtain ⟨_, _, _, _, _, _, _, hb'⟩ := hs.1
  have hB : ∀ k, B = some ⟨k, 0, none⟩ → w.heap.size ≤ k ∧ k < w'.heap.size := fun k hk => by
    rcases k1.form with ⟨e, _⟩ | ⟨g, e, ha, hb, _⟩
    · rw [e] at hk; cases hk
    · rw [e] at hk; injection hk with hk; injection hk with hk; subst hk; exact ⟨ha, hb⟩
  refine ⟨B, c, he, k1, ⟨F, G, k2, ?_, h3, fun k hk => ⟨(h4 k hk).1, fun hx => hx.elim (h4 k hk).2 fun e => ?_⟩, fun k hk => hk.elim (fun hx => ⟨Nat.lt_of_lt_of_le (h5 k hx).1 k3.size, (h5 k hx).2⟩) fun e => ⟨(hB k e).2, Nat.le_trans h6.size (hB k e).1⟩, hb'⟩, hs.2⟩
  · obtain ⟨A, c, hn⟩ := h2
    exact ⟨A, c, hn.fr k3 fun k hk hf => h3 k hf hk⟩
  · have := (hB k e).1
    rcases hk with hk | hk
    · have := h1.lt k hk; omega
    · have := h2.lt k hk; omega
/-- What stands behind the switch: true, the nets hold the same, the law's own two blocks are as they were. -/
def Sw (w0 : World) (p q most b i : Nat) (v : Value) (cs : Array Value) (xs : List Value) (w : World) : Prop := v = .bool true ∧ ∃ L, LS w0 p q most L L (XP b i) w ∧ Blk w b 41 cs ∧ Row w i (some ⟨i, 0, none⟩) xs
theorem fr2 {S : Nat → Prop} {w w' w'' : World} (h : Fr S w w') (k : Fr S w' w'') : Fr S w w'' := h.trans k fun _ _ h => h
theorem Sw.of {w0 w w' : World} {p q most b i : Nat} {L : List (List UInt8)} {cs : Array Value} {xs : List Value} (h : LS w0 p q most L L (XP b i) w') (hf : Fr (fun k => ¬ XP b i k) w w') (hb : Blk w b 41 cs) (hr : Row w i (some ⟨i, 0, none⟩) xs) : Sw w0 p q most b i (.bool true) cs xs w' :=
  ⟨rfl, L, h, hb.fr hf fun h => h (.inl rfl), hr.fr hf fun g hg h => h (by injection hg with hg; injection hg with hg; exact .inr hg.symm)⟩
theorem u8_more (x : UInt8) : IntKind.u8.wrap ((x.toNat : Int) + 1) = ((x + 1).toNat : Int) := by
  rw [UInt8.toNat_add]
  have := x.toNat_lt
  show (((x.toNat : Int) + 1) % 256 : Int) = _
  simp
theorem row_spoil {w : World} {base : Nat} {A : Option Addr} {ys : List UInt8} (h : Row w base A (ys.map u8v)) {j : Nat} (hj : j < ys.length) :
    ∃ g, A = some ⟨g, 0, none⟩ ∧ g < w.heap.size ∧ w.cell? ⟨g, j, none⟩ = some (.int .u8 ((ys[j]).toNat : Int)) ∧ w.frozen? ⟨g, j, none⟩ = false ∧ Row (w.setCell ⟨g, j, none⟩ (.int .u8 ((ys[j] + 1).toNat : Int))) base A ((ys.set j (ys[j] + 1)).map u8v) := by
  obtain ⟨g, e, hb, hlt, hc, hz, hu⟩ := h.at_ (k := j) (by simpa using hj)
  refine ⟨g, e, hlt, by simpa [u8v] using hc, hz, ?_⟩
  rw [List.map_set]
  exact hu _
set_option maxRecDepth 100000 in
set_option maxHeartbeats 8000000 in
theorem does_any (w0 w : World) (p q most : Nat) (L : List (List UInt8)) (h : LS w0 p q most L L (fun _ => False) w) (x : Open.OneC) (hx : Bytes w0 w0.heap.size x.A x.b) (hlen : x.b.length ≤ 5000) (hn : -9223372036854775808 ≤ x.n ∧ x.n ≤ 9223372036854775807) :
    Calls Try.prog 14 #[.pointer (some ⟨p, 0, none⟩), .pointer (some ⟨q, 0, none⟩), .agg (xcells x)] w (SameOk w0 p q most) := by
  obtain ⟨kk, nn, A, l, c⟩ := x
  unfold xcells
  dsimp only at hx hlen hn ⊢
  obtain ⟨r, hr⟩ : ∃ r, kk.toNat % 8 = r := ⟨_, rfl⟩
  have hrt : (kk.toNat : Int).tmod 8 = (r : Int) := by rw [Int.tmod_eq_emod_of_nonneg (by omega), ← hr]; simp
  have hr8 : (r : Int) < 8 := by omega
  have hr0 : (0 : Int) ≤ (r : Int) := by omega
  have hk0 : (0 : Int) ≤ (kk.toNat : Int) := by omega
  have hk2 : (kk.toNat : Int) ≤ 255 := by have := kk.toNat_lt; omega
  obtain ⟨m, hm⟩ : ∃ m, l.length = m := ⟨_, rfl⟩
  rw [hm] at hlen ⊢
  have HM := Lib.hid hm
  have HX := Lib.hid hx
  have H0 := Lib.hid h
  clear hr hm h hx
  have hcv : (convert 22 9 (.slice A m c)).run Try.prog (w.alloc (.cells #[.int .u8 (kk.toNat : Int), .int .i64 nn, .slice A m c] 41)) = .ok (.string (str l)) (w.alloc (.cells #[.int .u8 (kk.toNat : Int), .int .i64 nn, .slice A m c] 41)) := convB (HX.out.below (nextA H0.out.below _)) m c HM.out.symm
  go_enter Try.func14, Try.ntmps14
  go_upto_block 0 with ((with_reducible show wpList _ _ _ ((⟨some 17, _, _, _, _, _⟩ : Oper) :: _) _ _); refine wpList_bytesOf _ (by rfl) _ _ _ rfl 5 Try.underlying9 Try.underlying22 Try.underlying5 l rfl ?_; rw [HM.out, World.size_alloc]; intro c2 w2 hc2 hrow hb2 hs2; have hbk : Blk w2 w.heap.size 41 #[.int .u8 (kk.toNat : Int), .int .i64 nn, .slice A m c] := (Blk.new w _ _).keep (by rw [World.size_alloc]; exact hb2); have hd0 : w2.cell? ⟨w.heap.size, 0, none⟩ = some (.int .u8 (kk.toNat : Int)) := hbk.cell 0; have HR2 := Lib.hid (And.intro hrow (And.intro hb2 (And.intro hs2 hbk))); clear hrow hb2 hs2 hc2 hcv hbk)
  obtain ⟨hrow, hb2, hs2, hbk⟩ := HR2.out
  have hbel : Below w.heap.size w w2 := (nextA (Mem.start w) (.cells #[.int .u8 (kk.toNat : Int), .int .i64 nn, .slice A m c] 41)).trans (hb2.mono (by omega))
  have H2 := Lib.hid ((H0.out.more hbel (Y := XP w.heap.size (w.heap.size + 1)) (fun k hk => by rcases hk with rfl | rfl <;> omega)).less (Y := XP w.heap.size (w.heap.size + 1)) (fun k hk => .inr hk))
  have hd1 : w2.cell? ⟨w.heap.size, 1, none⟩ = some (.int .i64 nn) := hbk.cell 1
  have hd2 : w2.cell? ⟨w.heap.size, 2, none⟩ = some (.slice A m c) := hbk.cell 2
  have HB := Lib.hid (And.intro hrow hbk)
  have HBY := Lib.hid (show Bytes w2 w2.heap.size (some ⟨w.heap.size + 1, 0, none⟩) l from hrow.cells)
  have HT := Lib.hid (And.intro hd1 (And.intro hd2 (HX.out.below H2.out.below)))
  have HBL := Lib.hid hbel
  clear hrow hb2 hs2 hbk hbel HR2 hd0
  go_cut [8] (fun s8 wx => Sw w0 p q most w.heap.size (w.heap.size + 1) s8 #[.int .u8 (kk.toNat : Int), .int .i64 nn, .slice A m c] (l.map u8v) wx)
  case first =>
    have H2d := Lib.hid (H2.out.keep (nextN (Mem.start w2) 1))
    have HBd := Lib.hid (And.intro (HB.out.1.keep (nextN (Mem.start w2) 1)) (HB.out.2.keep (nextN (Mem.start w2) 1)))
    have hr : r < 3 ∨ r = 3 ∨ r = 4 ∨ r = 5 ∨ r = 6 ∨ r = 7 := by omega
    clear hn hr0 hk0 hk2 hlen
    rcases hr with hr | rfl | rfl | rfl | rfl | rfl
    · have e3 : ((r : Int) == 3) = false := by simp; omega
      have e4 : ((r : Int) == 4) = false := by simp; omega
      have e5 : ((r : Int) == 5) = false := by simp; omega
      have e6 : ((r : Int) == 6) = false := by simp; omega
      have e7 : ((r : Int) == 7) = false := by simp; omega
      have HS := Lib.hid (sendL' H2d.out (some ⟨w.heap.size + 1, 0, none⟩) l m c2 HM.out.symm (HBY.out.below (nextN (Mem.start w2) 1)))
      clear hd1 hd2 hr hr8
      go_wp2_with fail
      --HELD do4
      refine wp_region_noPanic ?_
      refine wp_heldG (fun w' => w'.cell? ⟨w.heap.size, 1, none⟩ = some (.int .i64 nn) ∧ w'.cell? ⟨w.heap.size, 2, none⟩ = some (.slice A m c) ∧ Bytes w' w0.heap.size A l) [] (by kernel_rfl) ?hs0 ?rg0
      case hs0 =>
        exact HT.out
      case rg0 =>
      intro hHeld
      refine wpAnyG_pure (i := 0) (oi := { dst := some 21, op := Op.move (Operand.tmp 0), type := 23, pos := _, after := #[], guard := none }) (v := ?_) rfl (by kernel_rfl) (by kernel_rfl) (by kernel_rfl) (by kernel_rfl) (fun _ _ _ h => h) (Or.inl ⟨by rfl, ?_⟩) (fun _ => by assumption) ?_
      rotate_left
      · intro w hSw
        try dsimp only at hSw
        go_simp
        try with_reducible rfl
      try simp only [Act.put, List.setIfInBounds_toArray, List.set_cons_zero, List.set_cons_succ]
      refine wpAnyG_pure (i := 1) (oi := { dst := some 22, op := Op.move (Operand.tmp 7), type := 22, pos := _, after := #[], guard := none }) (v := ?_) rfl (by kernel_rfl) (by kernel_rfl) (by kernel_rfl) (by kernel_rfl) (fun _ _ _ h => h) (Or.inl ⟨by rfl, ?_⟩) (fun _ => by assumption) ?_
      rotate_left
      · intro w hSw
        try dsimp only at hSw
        go_simp
        try with_reducible rfl
      try simp only [Act.put, List.setIfInBounds_toArray, List.set_cons_zero, List.set_cons_succ]
      refine wpAnyG_pure (i := 3) (oi := { dst := some 24, op := Op.move (Operand.tmp 1), type := 37, pos := _, after := #[], guard := none }) (v := ?_) rfl (by kernel_rfl) (by kernel_rfl) (by kernel_rfl) (by kernel_rfl) (fun _ _ _ h => h) (Or.inl ⟨by rfl, ?_⟩) (fun _ => by assumption) ?_
      rotate_left
      · intro w hSw
        try dsimp only at hSw
        go_simp
        try with_reducible rfl
      try simp only [Act.put, List.setIfInBounds_toArray, List.set_cons_zero, List.set_cons_succ]
      refine wpAnyG_pure (i := 4) (oi := { dst := some 25, op := Op.fieldAddr 41 (Operand.tmp 5) 2, type := 0, pos := _, after := #[], guard := none }) (v := ?_) rfl (by kernel_rfl) (by kernel_rfl) (by kernel_rfl) (by kernel_rfl) (fun _ _ _ h => h) (Or.inl ⟨by rfl, ?_⟩) (fun _ => by assumption) ?_
      rotate_left
      · intro w hSw
        try dsimp only at hSw
        go_simp
        try with_reducible rfl
      try simp only [Act.put, List.setIfInBounds_toArray, List.set_cons_zero, List.set_cons_succ]
      refine wpAnyG_take (i := 5) (oi := { dst := some 26, op := Op.load 22 (Operand.tmp 25), type := 22, pos := _, after := #[{ on := 4, ground := Ground.data }], guard := none }) (v := ?_) rfl (by kernel_rfl) (by kernel_rfl) (by kernel_rfl) (by kernel_rfl) (fun _ _ _ h => h) (Or.inl ⟨by rfl, ?_⟩) (by assumption) ?_
      rotate_left
      · intro w hSw
        try dsimp only at hSw
        go_simp
        try with_reducible rfl
      try simp only [Act.put, List.setIfInBounds_toArray, List.set_cons_zero, List.set_cons_succ]
      refine wpAnyG_take (i := 6) (oi := { dst := some 27, op := Op.convert 22 9 (Operand.tmp 26), type := 9, pos := _, after := #[{ on := 5, ground := Ground.data }], guard := none }) (v := ?_) rfl (by kernel_rfl) (by kernel_rfl) (by kernel_rfl) (by kernel_rfl) (fun _ _ _ h => h) (Or.inl ⟨by rfl, ?_⟩) (by assumption) ?_
      rotate_left
      · intro w hSw
        try dsimp only at hSw
        have hcv := convB hSw.2.2 m c HM.out.symm
        go_simp
        try with_reducible rfl
      try simp only [Act.put, List.setIfInBounds_toArray, List.set_cons_zero, List.set_cons_succ]
      refine wpAnyG_one (i := 2) (o := { dst := some 23, op := Op.call { callee := Callee.value (Operand.func 7), args := #[Operand.tmp 21, Operand.tmp 22], argTypes := #[23, 22] }, type := 26, pos := _, after := #[{ on := 0, ground := Ground.data }, { on := 1, ground := Ground.data }], guard := none }) (by kernel_rfl) rfl (fun K hK => ?_)
      go_simp
      refine HS.out.mono ?_
      rintro e w3 ⟨rfl, h3, f3⟩
      have H3 := Lib.hid (And.intro h3 f3)
      clear h3 f3
      try dsimp only
      refine hK.out _ _ ?_ (fun hHeld => ?_)
      · intro _
        try dsimp only
        exact ⟨cellFr H3.out.2 hHeld.1 (fun h => h (.inl rfl)), cellFr H3.out.2 hHeld.2.1 (fun h => h (.inl rfl)), HX.out.below H3.out.1.below⟩
      clear hK K
      try simp only [Act.put, List.setIfInBounds_toArray, List.set_cons_zero, List.set_cons_succ]
      have hHeld := hHeld (by kernel_rfl)
      refine wpAnyG_one (i := 7) (o := { dst := some 28, op := Op.call { callee := Callee.value (Operand.func 26), args := #[Operand.tmp 24, Operand.tmp 27], argTypes := #[37, 9] }, type := 26, pos := _, after := #[{ on := 3, ground := Ground.data }, { on := 6, ground := Ground.data }, { on := 2, ground := Ground.chain }], guard := none }) (by kernel_rfl) rfl (fun K hK => ?_)
      go_simp
      refine (rsendL' H3.out.1 l).mono ?_
      rintro e w4 ⟨rfl, h4, f4⟩
      have H4 := Lib.hid (And.intro h4 f4)
      clear h4 f4
      try dsimp only
      refine hK.out _ _ ?_ (fun hHeld => ?_)
      · intro _
        try dsimp only
        exact ⟨cellFr H4.out.2 hHeld.1 (fun h => h (.inl rfl)), cellFr H4.out.2 hHeld.2.1 (fun h => h (.inl rfl)), HX.out.below H4.out.1.below⟩
      clear hK K
      try simp only [Act.put, List.setIfInBounds_toArray, List.set_cons_zero, List.set_cons_succ]
      have hHeld := hHeld (by kernel_rfl)
      refine wpAnyG_pure (i := 8) (oi := { dst := some 29, op := Op.binOp BinOp.eql 26 (Operand.tmp 23) (Operand.tmp 28) 26, type := 4, pos := _, after := #[{ on := 2, ground := Ground.data }, { on := 7, ground := Ground.data }], guard := none }) (v := ?_) rfl (by kernel_rfl) (by kernel_rfl) (by kernel_rfl) (by kernel_rfl) (fun _ _ _ h => h) (Or.inl ⟨by rfl, ?_⟩) (fun _ => by assumption) ?_
      rotate_left
      · intro w hSw
        try dsimp only at hSw
        go_simp
        try with_reducible rfl
      try simp only [Act.put, List.setIfInBounds_toArray, List.set_cons_zero, List.set_cons_succ]
      refine wpAnyG_pure (i := 9) (oi := { dst := some 8, op := Op.assign (Operand.tmp 29), type := 4, pos := _, after := #[{ on := 8, ground := Ground.data }, { on := 7, ground := Ground.chain }, { on := 0, ground := Ground.phase }, { on := 1, ground := Ground.phase }, { on := 2, ground := Ground.phase }, { on := 3, ground := Ground.phase }, { on := 4, ground := Ground.phase }, { on := 5, ground := Ground.phase }, { on := 6, ground := Ground.phase }, { on := 7, ground := Ground.phase }, { on := 8, ground := Ground.phase }], guard := none }) (v := ?_) rfl (by kernel_rfl) (by kernel_rfl) (by kernel_rfl) (by kernel_rfl) (fun _ _ _ h => h) (Or.inl ⟨by rfl, ?_⟩) (fun _ => by assumption) ?_
      rotate_left
      · intro w hSw
        try dsimp only at hSw
        go_simp
        try with_reducible rfl
      try simp only [Act.put, List.setIfInBounds_toArray, List.set_cons_zero, List.set_cons_succ]
      refine wpAnyG_done (by kernel_rfl) ?_ _
      refine NoPanic.normal ?_
      --END do4
      go_wp2_with fail
      go_meet
      exact Sw.of H4.out.1 (fr2 H3.out.2 H4.out.2) HBd.out.2 HBd.out.1
    · go_wp2_with fail
      refine (takeLX H2.out nn).mono ?_
      rintro e w3 ⟨B3, c3, rfl, ho3, h3, f3⟩
      have H3 := Lib.hid (And.intro ho3 (And.intro h3 f3))
      have hd1' : w3.cell? ⟨w.heap.size, 1, none⟩ = some (.int .i64 nn) := cellFr f3 hd1 (fun h => h (.inl rfl))
      clear ho3 h3 f3 hd1
      go_wp2_with fail
      refine (rtakeL' H3.out.2.1 nn).mono ?_
      rintro e w4 ⟨rfl, h4, f4⟩
      have hcv := convB (H3.out.1.fr f4 (fun g hg h => h (.inr hg))).bytes _ c3 rfl
      have H4 := Lib.hid (And.intro h4 f4)
      clear h4 f4
      go_wp2_with fail
      go_meet
      exact Sw.of (H4.out.1.less fun k hk => .inl hk) ((H3.out.2.2).trans H4.out.2 (fun k _ h h' => h (.inl h'))) HB.out.2 HB.out.1
    · go_wp2_with fail
      refine (takeLX H2.out nn).mono ?_
      rintro e w3 ⟨B3, c3, rfl, ho3, h3, f3⟩
      have H3 := Lib.hid (And.intro ho3 (And.intro h3 f3))
      have hd1' : w3.cell? ⟨w.heap.size, 1, none⟩ = some (.int .i64 nn) := cellFr f3 hd1 (fun h => h (.inl rfl))
      clear ho3 h3 f3 hd1
      go_wp2_with fail
      refine (rtakeL' H3.out.2.1 nn).mono ?_
      rintro e w4 ⟨rfl, h4, f4⟩
      have hcv := convB (H3.out.1.fr f4 (fun g hg h => h (.inr hg))).bytes _ c3 rfl
      have H4 := Lib.hid (And.intro h4 f4)
      clear h4 f4
      go_wp2_with fail
      go_meet
      exact Sw.of (H4.out.1.less fun k hk => .inl hk) ((H3.out.2.2).trans H4.out.2 (fun k _ h h' => h (.inl h'))) HB.out.2 HB.out.1
    · clear hd2
      have HS := Lib.hid (twiceL' H2d.out nn)
      clear hd1
      go_wp2_with fail
      --HELD do11
      refine wp_region_noPanic ?_
      refine wp_heldG (fun w' => w'.cell? ⟨w.heap.size, 1, none⟩ = some (.int .i64 nn) ∧ w'.cell? ⟨w.heap.size, 2, none⟩ = some (.slice A m c) ∧ Bytes w' w0.heap.size A l) [] (by kernel_rfl) ?hs0 ?rg0
      case hs0 =>
        exact HT.out
      case rg0 =>
      intro hHeld
      refine wpAnyG_pure (i := 0) (oi := { dst := some 58, op := Op.move (Operand.tmp 0), type := 23, pos := _, after := #[], guard := none }) (v := ?_) rfl (by kernel_rfl) (by kernel_rfl) (by kernel_rfl) (by kernel_rfl) (fun _ _ _ h => h) (Or.inl ⟨by rfl, ?_⟩) (fun _ => by assumption) ?_
      rotate_left
      · intro w hSw
        try dsimp only at hSw
        go_simp
        try with_reducible rfl
      try simp only [Act.put, List.setIfInBounds_toArray, List.set_cons_zero, List.set_cons_succ]
      refine wpAnyG_pure (i := 1) (oi := { dst := some 59, op := Op.fieldAddr 41 (Operand.tmp 5) 1, type := 0, pos := _, after := #[], guard := none }) (v := ?_) rfl (by kernel_rfl) (by kernel_rfl) (by kernel_rfl) (by kernel_rfl) (fun _ _ _ h => h) (Or.inl ⟨by rfl, ?_⟩) (fun _ => by assumption) ?_
      rotate_left
      · intro w hSw
        try dsimp only at hSw
        go_simp
        try with_reducible rfl
      try simp only [Act.put, List.setIfInBounds_toArray, List.set_cons_zero, List.set_cons_succ]
      refine wpAnyG_take (i := 2) (oi := { dst := some 60, op := Op.load 3 (Operand.tmp 59), type := 3, pos := _, after := #[{ on := 1, ground := Ground.data }], guard := none }) (v := ?_) rfl (by kernel_rfl) (by kernel_rfl) (by kernel_rfl) (by kernel_rfl) (fun _ _ _ h => h) (Or.inl ⟨by rfl, ?_⟩) (by assumption) ?_
      rotate_left
      · intro w hSw
        try dsimp only at hSw
        go_simp
        try with_reducible rfl
      try simp only [Act.put, List.setIfInBounds_toArray, List.set_cons_zero, List.set_cons_succ]
      refine wpAnyG_pure (i := 4) (oi := { dst := some 62, op := Op.move (Operand.tmp 1), type := 37, pos := _, after := #[], guard := none }) (v := ?_) rfl (by kernel_rfl) (by kernel_rfl) (by kernel_rfl) (by kernel_rfl) (fun _ _ _ h => h) (Or.inl ⟨by rfl, ?_⟩) (fun _ => by assumption) ?_
      rotate_left
      · intro w hSw
        try dsimp only at hSw
        go_simp
        try with_reducible rfl
      try simp only [Act.put, List.setIfInBounds_toArray, List.set_cons_zero, List.set_cons_succ]
      refine wpAnyG_pure (i := 5) (oi := { dst := some 63, op := Op.fieldAddr 41 (Operand.tmp 5) 1, type := 0, pos := _, after := #[], guard := none }) (v := ?_) rfl (by kernel_rfl) (by kernel_rfl) (by kernel_rfl) (by kernel_rfl) (fun _ _ _ h => h) (Or.inl ⟨by rfl, ?_⟩) (fun _ => by assumption) ?_
      rotate_left
      · intro w hSw
        try dsimp only at hSw
        go_simp
        try with_reducible rfl
      try simp only [Act.put, List.setIfInBounds_toArray, List.set_cons_zero, List.set_cons_succ]
      refine wpAnyG_take (i := 6) (oi := { dst := some 64, op := Op.load 3 (Operand.tmp 63), type := 3, pos := _, after := #[{ on := 5, ground := Ground.data }], guard := none }) (v := ?_) rfl (by kernel_rfl) (by kernel_rfl) (by kernel_rfl) (by kernel_rfl) (fun _ _ _ h => h) (Or.inl ⟨by rfl, ?_⟩) (by assumption) ?_
      rotate_left
      · intro w hSw
        try dsimp only at hSw
        go_simp
        try with_reducible rfl
      try simp only [Act.put, List.setIfInBounds_toArray, List.set_cons_zero, List.set_cons_succ]
      refine wpAnyG_one (i := 3) (o := { dst := some 61, op := Op.call { callee := Callee.value (Operand.func 18), args := #[Operand.tmp 58, Operand.tmp 60], argTypes := #[23, 3] }, type := 26, pos := _, after := #[{ on := 0, ground := Ground.data }, { on := 2, ground := Ground.data }], guard := none }) (by kernel_rfl) rfl (fun K hK => ?_)
      go_simp
      refine HS.out.mono ?_
      rintro e w3 ⟨rfl, h3, f3⟩
      have H3 := Lib.hid (And.intro h3 f3)
      clear h3 f3
      try dsimp only
      refine hK.out _ _ ?_ (fun hHeld => ?_)
      · intro _
        try dsimp only
        exact ⟨cellFr H3.out.2 hHeld.1 (fun h => h (.inl rfl)), cellFr H3.out.2 hHeld.2.1 (fun h => h (.inl rfl)), HX.out.below H3.out.1.below⟩
      clear hK K
      try simp only [Act.put, List.setIfInBounds_toArray, List.set_cons_zero, List.set_cons_succ]
      have hHeld := hHeld (by kernel_rfl)
      refine wpAnyG_one (i := 7) (o := { dst := some 65, op := Op.call { callee := Callee.value (Operand.func 24), args := #[Operand.tmp 62, Operand.tmp 64], argTypes := #[37, 3] }, type := 26, pos := _, after := #[{ on := 4, ground := Ground.data }, { on := 6, ground := Ground.data }, { on := 3, ground := Ground.chain }], guard := none }) (by kernel_rfl) rfl (fun K hK => ?_)
      go_simp
      refine (rtwiceL' H3.out.1 nn).mono ?_
      rintro e w4 ⟨rfl, h4, f4⟩
      have H4 := Lib.hid (And.intro h4 f4)
      clear h4 f4
      try dsimp only
      refine hK.out _ _ ?_ (fun hHeld => ?_)
      · intro _
        try dsimp only
        exact ⟨cellFr H4.out.2 hHeld.1 (fun h => h (.inl rfl)), cellFr H4.out.2 hHeld.2.1 (fun h => h (.inl rfl)), HX.out.below H4.out.1.below⟩
      clear hK K
      try simp only [Act.put, List.setIfInBounds_toArray, List.set_cons_zero, List.set_cons_succ]
      have hHeld := hHeld (by kernel_rfl)
      refine wpAnyG_pure (i := 8) (oi := { dst := some 66, op := Op.binOp BinOp.eql 26 (Operand.tmp 61) (Operand.tmp 65) 26, type := 4, pos := _, after := #[{ on := 3, ground := Ground.data }, { on := 7, ground := Ground.data }], guard := none }) (v := ?_) rfl (by kernel_rfl) (by kernel_rfl) (by kernel_rfl) (by kernel_rfl) (fun _ _ _ h => h) (Or.inl ⟨by rfl, ?_⟩) (fun _ => by assumption) ?_
      rotate_left
      · intro w hSw
        try dsimp only at hSw
        go_simp
        try with_reducible rfl
      try simp only [Act.put, List.setIfInBounds_toArray, List.set_cons_zero, List.set_cons_succ]
      refine wpAnyG_pure (i := 9) (oi := { dst := some 8, op := Op.assign (Operand.tmp 66), type := 4, pos := _, after := #[{ on := 8, ground := Ground.data }, { on := 7, ground := Ground.chain }, { on := 0, ground := Ground.phase }, { on := 1, ground := Ground.phase }, { on := 2, ground := Ground.phase }, { on := 3, ground := Ground.phase }, { on := 4, ground := Ground.phase }, { on := 5, ground := Ground.phase }, { on := 6, ground := Ground.phase }, { on := 7, ground := Ground.phase }, { on := 8, ground := Ground.phase }], guard := none }) (v := ?_) rfl (by kernel_rfl) (by kernel_rfl) (by kernel_rfl) (by kernel_rfl) (fun _ _ _ h => h) (Or.inl ⟨by rfl, ?_⟩) (fun _ => by assumption) ?_
      rotate_left
      · intro w hSw
        try dsimp only at hSw
        go_simp
        try with_reducible rfl
      try simp only [Act.put, List.setIfInBounds_toArray, List.set_cons_zero, List.set_cons_succ]
      refine wpAnyG_done (by kernel_rfl) ?_ _
      refine NoPanic.normal ?_
      --END do11
      go_wp2_with fail
      go_meet
      exact Sw.of H4.out.1 (fr2 H3.out.2 H4.out.2) HBd.out.2 HBd.out.1
    · have HS := Lib.hid (setL' H2d.out nn (some ⟨w.heap.size + 1, 0, none⟩) l m c2 HM.out.symm (HBY.out.below (nextN (Mem.start w2) 1)))
      clear hd1 hd2
      go_wp2_with fail
      --HELD do13
      refine wp_region_noPanic ?_
      refine wp_heldG (fun w' => w'.cell? ⟨w.heap.size, 1, none⟩ = some (.int .i64 nn) ∧ w'.cell? ⟨w.heap.size, 2, none⟩ = some (.slice A m c) ∧ Bytes w' w0.heap.size A l) [] (by kernel_rfl) ?hs0 ?rg0
      case hs0 =>
        exact HT.out
      case rg0 =>
      intro hHeld
      refine wpAnyG_pure (i := 0) (oi := { dst := some 69, op := Op.move (Operand.tmp 0), type := 23, pos := _, after := #[], guard := none }) (v := ?_) rfl (by kernel_rfl) (by kernel_rfl) (by kernel_rfl) (by kernel_rfl) (fun _ _ _ h => h) (Or.inl ⟨by rfl, ?_⟩) (fun _ => by assumption) ?_
      rotate_left
      · intro w hSw
        try dsimp only at hSw
        go_simp
        try with_reducible rfl
      try simp only [Act.put, List.setIfInBounds_toArray, List.set_cons_zero, List.set_cons_succ]
      refine wpAnyG_pure (i := 1) (oi := { dst := some 70, op := Op.fieldAddr 41 (Operand.tmp 5) 1, type := 0, pos := _, after := #[], guard := none }) (v := ?_) rfl (by kernel_rfl) (by kernel_rfl) (by kernel_rfl) (by kernel_rfl) (fun _ _ _ h => h) (Or.inl ⟨by rfl, ?_⟩) (fun _ => by assumption) ?_
      rotate_left
      · intro w hSw
        try dsimp only at hSw
        go_simp
        try with_reducible rfl
      try simp only [Act.put, List.setIfInBounds_toArray, List.set_cons_zero, List.set_cons_succ]
      refine wpAnyG_take (i := 2) (oi := { dst := some 71, op := Op.load 3 (Operand.tmp 70), type := 3, pos := _, after := #[{ on := 1, ground := Ground.data }], guard := none }) (v := ?_) rfl (by kernel_rfl) (by kernel_rfl) (by kernel_rfl) (by kernel_rfl) (fun _ _ _ h => h) (Or.inl ⟨by rfl, ?_⟩) (by assumption) ?_
      rotate_left
      · intro w hSw
        try dsimp only at hSw
        go_simp
        try with_reducible rfl
      try simp only [Act.put, List.setIfInBounds_toArray, List.set_cons_zero, List.set_cons_succ]
      refine wpAnyG_pure (i := 3) (oi := { dst := some 72, op := Op.move (Operand.tmp 7), type := 22, pos := _, after := #[], guard := none }) (v := ?_) rfl (by kernel_rfl) (by kernel_rfl) (by kernel_rfl) (by kernel_rfl) (fun _ _ _ h => h) (Or.inl ⟨by rfl, ?_⟩) (fun _ => by assumption) ?_
      rotate_left
      · intro w hSw
        try dsimp only at hSw
        go_simp
        try with_reducible rfl
      try simp only [Act.put, List.setIfInBounds_toArray, List.set_cons_zero, List.set_cons_succ]
      refine wpAnyG_pure (i := 5) (oi := { dst := some 74, op := Op.move (Operand.tmp 1), type := 37, pos := _, after := #[], guard := none }) (v := ?_) rfl (by kernel_rfl) (by kernel_rfl) (by kernel_rfl) (by kernel_rfl) (fun _ _ _ h => h) (Or.inl ⟨by rfl, ?_⟩) (fun _ => by assumption) ?_
      rotate_left
      · intro w hSw
        try dsimp only at hSw
        go_simp
        try with_reducible rfl
      try simp only [Act.put, List.setIfInBounds_toArray, List.set_cons_zero, List.set_cons_succ]
      refine wpAnyG_pure (i := 6) (oi := { dst := some 75, op := Op.fieldAddr 41 (Operand.tmp 5) 1, type := 0, pos := _, after := #[], guard := none }) (v := ?_) rfl (by kernel_rfl) (by kernel_rfl) (by kernel_rfl) (by kernel_rfl) (fun _ _ _ h => h) (Or.inl ⟨by rfl, ?_⟩) (fun _ => by assumption) ?_
      rotate_left
      · intro w hSw
        try dsimp only at hSw
        go_simp
        try with_reducible rfl
      try simp only [Act.put, List.setIfInBounds_toArray, List.set_cons_zero, List.set_cons_succ]
      refine wpAnyG_take (i := 7) (oi := { dst := some 76, op := Op.load 3 (Operand.tmp 75), type := 3, pos := _, after := #[{ on := 6, ground := Ground.data }], guard := none }) (v := ?_) rfl (by kernel_rfl) (by kernel_rfl) (by kernel_rfl) (by kernel_rfl) (fun _ _ _ h => h) (Or.inl ⟨by rfl, ?_⟩) (by assumption) ?_
      rotate_left
      · intro w hSw
        try dsimp only at hSw
        go_simp
        try with_reducible rfl
      try simp only [Act.put, List.setIfInBounds_toArray, List.set_cons_zero, List.set_cons_succ]
      refine wpAnyG_pure (i := 8) (oi := { dst := some 77, op := Op.fieldAddr 41 (Operand.tmp 5) 2, type := 0, pos := _, after := #[], guard := none }) (v := ?_) rfl (by kernel_rfl) (by kernel_rfl) (by kernel_rfl) (by kernel_rfl) (fun _ _ _ h => h) (Or.inl ⟨by rfl, ?_⟩) (fun _ => by assumption) ?_
      rotate_left
      · intro w hSw
        try dsimp only at hSw
        go_simp
        try with_reducible rfl
      try simp only [Act.put, List.setIfInBounds_toArray, List.set_cons_zero, List.set_cons_succ]
      refine wpAnyG_take (i := 9) (oi := { dst := some 78, op := Op.load 22 (Operand.tmp 77), type := 22, pos := _, after := #[{ on := 8, ground := Ground.data }], guard := none }) (v := ?_) rfl (by kernel_rfl) (by kernel_rfl) (by kernel_rfl) (by kernel_rfl) (fun _ _ _ h => h) (Or.inl ⟨by rfl, ?_⟩) (by assumption) ?_
      rotate_left
      · intro w hSw
        try dsimp only at hSw
        go_simp
        try with_reducible rfl
      try simp only [Act.put, List.setIfInBounds_toArray, List.set_cons_zero, List.set_cons_succ]
      refine wpAnyG_take (i := 10) (oi := { dst := some 79, op := Op.convert 22 9 (Operand.tmp 78), type := 9, pos := _, after := #[{ on := 9, ground := Ground.data }], guard := none }) (v := ?_) rfl (by kernel_rfl) (by kernel_rfl) (by kernel_rfl) (by kernel_rfl) (fun _ _ _ h => h) (Or.inl ⟨by rfl, ?_⟩) (by assumption) ?_
      rotate_left
      · intro w hSw
        try dsimp only at hSw
        have hcv := convB hSw.2.2 m c HM.out.symm
        go_simp
        try with_reducible rfl
      try simp only [Act.put, List.setIfInBounds_toArray, List.set_cons_zero, List.set_cons_succ]
      refine wpAnyG_one (i := 4) (o := { dst := some 73, op := Op.call { callee := Callee.value (Operand.func 19), args := #[Operand.tmp 69, Operand.tmp 71, Operand.tmp 72], argTypes := #[23, 3, 22] }, type := 26, pos := _, after := #[{ on := 0, ground := Ground.data }, { on := 2, ground := Ground.data }, { on := 3, ground := Ground.data }], guard := none }) (by kernel_rfl) rfl (fun K hK => ?_)
      go_simp
      refine HS.out.mono ?_
      rintro e w3 ⟨rfl, h3, f3⟩
      have H3 := Lib.hid (And.intro h3 f3)
      clear h3 f3
      try dsimp only
      refine hK.out _ _ ?_ (fun hHeld => ?_)
      · intro _
        try dsimp only
        exact ⟨cellFr H3.out.2 hHeld.1 (fun h => h (.inl rfl)), cellFr H3.out.2 hHeld.2.1 (fun h => h (.inl rfl)), HX.out.below H3.out.1.below⟩
      clear hK K
      try simp only [Act.put, List.setIfInBounds_toArray, List.set_cons_zero, List.set_cons_succ]
      have hHeld := hHeld (by kernel_rfl)
      refine wpAnyG_one (i := 11) (o := { dst := some 80, op := Op.call { callee := Callee.value (Operand.func 25), args := #[Operand.tmp 74, Operand.tmp 76, Operand.tmp 79], argTypes := #[37, 3, 9] }, type := 26, pos := _, after := #[{ on := 5, ground := Ground.data }, { on := 7, ground := Ground.data }, { on := 10, ground := Ground.data }, { on := 4, ground := Ground.chain }], guard := none }) (by kernel_rfl) rfl (fun K hK => ?_)
      go_simp
      refine (rsetL' H3.out.1 nn l).mono ?_
      rintro e w4 ⟨rfl, h4, f4⟩
      have H4 := Lib.hid (And.intro h4 f4)
      clear h4 f4
      try dsimp only
      refine hK.out _ _ ?_ (fun hHeld => ?_)
      · intro _
        try dsimp only
        exact ⟨cellFr H4.out.2 hHeld.1 (fun h => h (.inl rfl)), cellFr H4.out.2 hHeld.2.1 (fun h => h (.inl rfl)), HX.out.below H4.out.1.below⟩
      clear hK K
      try simp only [Act.put, List.setIfInBounds_toArray, List.set_cons_zero, List.set_cons_succ]
      have hHeld := hHeld (by kernel_rfl)
      refine wpAnyG_pure (i := 12) (oi := { dst := some 81, op := Op.binOp BinOp.eql 26 (Operand.tmp 73) (Operand.tmp 80) 26, type := 4, pos := _, after := #[{ on := 4, ground := Ground.data }, { on := 11, ground := Ground.data }], guard := none }) (v := ?_) rfl (by kernel_rfl) (by kernel_rfl) (by kernel_rfl) (by kernel_rfl) (fun _ _ _ h => h) (Or.inl ⟨by rfl, ?_⟩) (fun _ => by assumption) ?_
      rotate_left
      · intro w hSw
        try dsimp only at hSw
        go_simp
        try with_reducible rfl
      try simp only [Act.put, List.setIfInBounds_toArray, List.set_cons_zero, List.set_cons_succ]
      refine wpAnyG_pure (i := 13) (oi := { dst := some 8, op := Op.assign (Operand.tmp 81), type := 4, pos := _, after := #[{ on := 12, ground := Ground.data }, { on := 11, ground := Ground.chain }, { on := 0, ground := Ground.phase }, { on := 1, ground := Ground.phase }, { on := 2, ground := Ground.phase }, { on := 3, ground := Ground.phase }, { on := 4, ground := Ground.phase }, { on := 5, ground := Ground.phase }, { on := 6, ground := Ground.phase }, { on := 7, ground := Ground.phase }, { on := 8, ground := Ground.phase }, { on := 9, ground := Ground.phase }, { on := 10, ground := Ground.phase }, { on := 11, ground := Ground.phase }, { on := 12, ground := Ground.phase }], guard := none }) (v := ?_) rfl (by kernel_rfl) (by kernel_rfl) (by kernel_rfl) (by kernel_rfl) (fun _ _ _ h => h) (Or.inl ⟨by rfl, ?_⟩) (fun _ => by assumption) ?_
      rotate_left
      · intro w hSw
        try dsimp only at hSw
        go_simp
        try with_reducible rfl
      try simp only [Act.put, List.setIfInBounds_toArray, List.set_cons_zero, List.set_cons_succ]
      refine wpAnyG_done (by kernel_rfl) ?_ _
      refine NoPanic.normal ?_
      --END do13
      go_wp2_with fail
      go_meet
      exact Sw.of H4.out.1 (fr2 H3.out.2 H4.out.2) HBd.out.2 HBd.out.1
    · by_cases hn3 : nn = 3
      · subst hn3
        go_wp2_with fail
        refine (clearL' H2.out).mono ?_
        rintro e w3 ⟨rfl, h3, f3⟩
        obtain ⟨A3, c3, hq, hqz, _⟩ := h3.rcell
        have H3 := Lib.hid (And.intro h3 f3)
        clear h3 f3
        go_wp2_with fail
        go_meet
        exact Sw.of H3.out.1.rclear.1 (fr2 H3.out.2 H3.out.1.rclear.2) HB.out.2 HB.out.1
      · have e3 : (nn == 3) = false := by simp [hn3]
        go_wp2_with fail
        go_meet
        exact Sw.of H2.out (Fr.refl _ _) HB.out.2 HB.out.1
  case rest =>
    obtain ⟨rfl, L', h, hbk, hrow⟩ := hcut
    have hcv1 := convB (show Bytes wc wc.heap.size (some ⟨w.heap.size + 1, 0, none⟩) l from hrow.cells) m c2 HM.out.symm
    have hcv2 := convB (HX.out.below h.below) m c HM.out.symm
    have hb2 : wc.cell? ⟨w.heap.size, 2, none⟩ = some (.slice A m c) := hbk.cell 2
    have HR := Lib.hid (And.intro h hrow)
    clear h hbk hrow H2 HB HBY HT hd1 hd2 hrt
    go_wp2_with fail
    clear hcv1 hcv2 hb2
    go_loopw [13] (fun i wr => ∃ (j : Nat) (ys : List UInt8), i = .int .i64 (j : Int) ∧ j ≤ m ∧ ys.length = m ∧ Row wr (w.heap.size + 1) (some ⟨w.heap.size + 1, 0, none⟩) (ys.map u8v) ∧ Fr (XP w.heap.size (w.heap.size + 1)) wc wr) (fun i _ => m - (intOf i).toNat)
    case atStart => exact ⟨0, l, rfl, Nat.zero_le _, HM.out, HR.out.2, Fr.refl _ _⟩
    case round =>
      obtain ⟨j, ys, rfl, hj, hys, hrow, hfr⟩ := hrel
      by_cases hjm : j < m
      · have hji : (j : Int) < (m : Int) := by omega
        have hj0 : (0 : Int) ≤ (j : Int) := by omega
        obtain ⟨g, hg, hlt, hc, hfz, hset⟩ := row_spoil hrow (by rw [hys]; exact hjm)
        injection hg with hg; injection hg with hg; subst hg
        generalize (ys[j]'(by rw [hys]; exact hjm)) = t at hc hset
        have hwt := u8_more t
        have HJ := Lib.hid (And.intro hys (And.intro hset (And.intro hfr hlt)))
        clear hys hset hfr hrow hlt
        go_wp2_with fail
        go_roundw
        case rel => exact ⟨j + 1, ys.set j (t + 1), rfl, hjm, by rw [List.length_set]; exact HJ.out.1, HJ.out.2.1, HJ.out.2.2.1.setCell (fun _ => .inr rfl) _⟩
        case measure => simp [intOf]; omega
      · obtain rfl : m = j := by omega
        have HE := Lib.hid (And.intro ((HR.out.1.other hfr).less (Y := fun _ => False) (fun _ h => h.elim)) hys)
        clear hys hrow hfr
        go_wp2_with fail
        go_ret
        exact ⟨rfl, L', HE.out.1⟩
end Go.Proofs.Ytdgaicnnaidkkaa.NtW
