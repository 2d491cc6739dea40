/- Package wire's get: the fields of many cells, and any field. Printed by genwgl.py (raw numbers of the seat). -/
import Derived.Test.YtebdmfmadbikaaaDoorWrGetF
import Derived.Test.YtebdmfmadbikaaaDoorAppK
import Derived.Test.YtebdmfmadbikaaaDoorHeldG
import Derived.Test.YtebdmfmadbikaaaDoorPan
namespace Go.Proofs.YtebdmfmadbikaaaDoor.WiW
open Go.RowKit Go.Shelf Mem Fds FdW Wi Rng
set_option linter.unusedVariables false
set_option linter.unusedSimpArgs false

theorem iinfo9 : (Tryd.prog.info? 3).map (fun i => (i.zero, i.size, i.bytes)) = some (some (.int .i64 0), 1, 8) := by kernel_rfl
theorem idinfo9 : (Tryd.prog.info? 50).map (fun i => (i.zero, i.size, i.bytes)) = some (some (.agg #[.string (str []), .int .i64 0]), 2, 24) := by kernel_rfl
theorem blk_ne_ownK {w : World} {g : Nat} {T : TypeId} {cs : Array Value} (h : Blk w g T cs) {base' K n c' : Nat} {T' : TypeId} {A' : Option Addr} {ys : List Value} (ho : OwnK w base' T' K A' n c' ys) (hT : T ≠ T') : A' ≠ some ⟨g, 0, none⟩ := by
  intro e1
  subst e1
  have h' : w.heap[g]? = some (.cells cs T (0, 0)) := h
  rcases ho.2 with ⟨hv, _⟩ | ⟨g2, cap, cur, hv, _, hh, _⟩
  · injection hv with hv; cases hv
  · injection hv with hv _ _
    injection hv with hv; injection hv with hv
    subst hv
    rw [h'] at hh
    injection hh with hh; injection hh with _ hh
    exact hT hh
/-- A message's rows, in blocks from B on. -/
def RowsO (w : World) (B : Nat) (m : Msg) (s : Sl) : Prop := OwnK w B 50 2 s.ia m.ids.length s.ic (m.ids.flatMap dc) ∧ Mem.Own w B 3 s.na s.nc (m.nodes.map iv) ∧ Mem.Own w B 5 s.da s.dk (m.data.map u8v)
theorem RowsO.fr {S : Nat → Prop} {w w' : World} {B : Nat} {m : Msg} {s : Sl} (h : RowsO w B m s) (hf : Fr S w w') (hS : ∀ k, S k → (∀ n A c xs, Mem.OwnK w B 50 2 A n c xs → ∀ g, A = some ⟨g, 0, none⟩ → g ≠ k) ∧ (∀ A c xs T, T = 3 ∨ T = 5 → Mem.Own w B T A c xs → ∀ g, A = some ⟨g, 0, none⟩ → g ≠ k)) : RowsO w' B m s :=
  ⟨h.1.fr hf fun g hg hs => (hS g hs).1 _ _ _ _ h.1 g hg rfl, h.2.1.fr hf fun g hg hs => (hS g hs).2 _ _ _ _ (.inl rfl) h.2.1 g hg rfl, h.2.2.fr hf fun g hg hs => (hS g hs).2 _ _ _ _ (.inr rfl) h.2.2 g hg rfl⟩
/-- Blocks of other types may turn. -/
theorem RowsO.frT {w w' : World} {B B2 p q : Nat} {m m2 : Msg} {s s2 : Sl} {l : List UInt8} (h : RowsO w B2 m s) (hr : Rd w B p l) (hq : Blk w q 27 (mv m2 s2)) (hf : Fr (fun k => k = p ∨ k = q) w w') : RowsO w' B2 m s := by
  obtain ⟨_, A, c, hp, _⟩ := hr
  refine h.fr hf fun k hk => ⟨fun n A c xs ho g hg e => ?_, fun A c xs T hT ho g hg e => ?_⟩
  · subst e
    rcases hk with rfl | rfl
    · exact blk_ne_ownK hp ho (by decide) hg
    · exact blk_ne_ownK hq ho (by decide) hg
  · subst e
    rcases hk with rfl | rfl
    · exact hp.ne_own ho (by rcases hT with rfl | rfl <;> decide) _ hg rfl
    · exact hq.ne_own ho (by rcases hT with rfl | rfl <;> decide) _ hg rfl
/-- What get leaves of any field: the message at q with its rows, the reader at p. -/
def Kept (f : Nat) (s s' : Sl) : Prop := (f ≠ 8 → s'.ia = s.ia ∧ s'.ic = s.ic) ∧ (f ≠ 9 → s'.na = s.na ∧ s'.nc = s.nc) ∧ (f ≠ 10 → s'.da = s.da ∧ s'.dk = s.dk)
def Fresh (f : Nat) (m : Msg) (s : Sl) : Prop := (f = 8 → m.ids = [] ∧ s.ia = none ∧ s.ic = 0) ∧ (f = 9 → m.nodes = [] ∧ s.na = none ∧ s.nc = 0) ∧ (f = 10 → m.data = [] ∧ s.da = none ∧ s.dk = 0)
def GetR (w : World) (B B2 p q f : Nat) (s : Sl) (o : Option (Msg × List UInt8)) (e : Ending) (w' : World) : Prop :=
  Fr (fun k => k = p ∨ k = q) w w' ∧ match o with
    | some x => e = .returned (.tuple #[]) ∧ Rd w' B p x.2 ∧ ∃ s', Blk w' q 27 (mv x.1 s') ∧ RowsO w' B2 x.1 s' ∧ Kept f s s'
    | none => e = .panicked thrown ∧ ∃ m' s', Blk w' q 27 (mv m' s')
theorem rnodes_snoc : ∀ (j : Nat) (l : List UInt8), rnodes (j + 1) l = (rnodes j l).bind fun p => (rnum 2 p.2).map fun q => (p.1 ++ [(q.1 : Int)], q.2)
  | 0, l => by
    simp only [rnodes, Option.bind_some]
    cases rnum 2 l <;> rfl
  | j + 1, l => by
    show (rnum 2 l).bind (fun p => (rnodes (j + 1) p.2).map fun q => ((p.1 : Int) :: q.1, q.2)) = ((rnum 2 l).bind (fun p => (rnodes j p.2).map fun q => ((p.1 : Int) :: q.1, q.2))).bind _
    cases rnum 2 l with
    | none => rfl
    | some x =>
      simp only [Option.bind_some]
      rw [rnodes_snoc j x.2]
      cases rnodes j x.2 with
      | none => rfl
      | some y =>
        simp only [Option.bind_some, Option.map_some]
        cases rnum 2 y.2 <;> rfl
theorem rids_snoc : ∀ (j : Nat) (l : List UInt8), rids (j + 1) l = (rids j l).bind fun p => (rid p.2).map fun q => (p.1 ++ [q.1], q.2)
  | 0, l => by
    simp only [rids, Option.bind_some]
    cases rid l <;> rfl
  | j + 1, l => by
    show (rid l).bind (fun p => (rids (j + 1) p.2).map fun q => (p.1 :: q.1, q.2)) = ((rid l).bind (fun p => (rids j p.2).map fun q => (p.1 :: q.1, q.2))).bind _
    cases rid l with
    | none => rfl
    | some x =>
      simp only [Option.bind_some]
      rw [rids_snoc j x.2]
      cases rids j x.2 with
      | none => rfl
      | some y =>
        simp only [Option.bind_some, Option.map_some]
        cases rid y.2 <;> rfl
theorem rnodes_none {j : Nat} {l : List UInt8} (h : rnodes j l = none) : ∀ n, j ≤ n → rnodes n l = none := fun n hn => by
  induction hn with
  | refl => exact h
  | step _ ih => rw [rnodes_snoc, ih]; rfl
theorem rids_none {j : Nat} {l : List UInt8} (h : rids j l = none) : ∀ n, j ≤ n → rids n l = none := fun n hn => by
  induction hn with
  | refl => exact h
  | step _ ih => rw [rids_snoc, ih]; rfl
theorem rnodes_len : ∀ {j : Nat} {l : List UInt8} {x : List Int × List UInt8}, rnodes j l = some x → x.1.length = j
  | 0, l, x, h => by injection h with h; subst h; rfl
  | j + 1, l, x, h => by
    rw [rnodes_snoc, Option.bind_eq_some_iff] at h
    obtain ⟨y, h1, h2⟩ := h
    rw [Option.map_eq_some_iff] at h2
    obtain ⟨z, _, rfl⟩ := h2
    simp [rnodes_len h1]
theorem rids_len : ∀ {j : Nat} {l : List UInt8} {x : List (List UInt8 × Int) × List UInt8}, rids j l = some x → x.1.length = j
  | 0, l, x, h => by injection h with h; subst h; rfl
  | j + 1, l, x, h => by
    rw [rids_snoc, Option.bind_eq_some_iff] at h
    obtain ⟨y, h1, h2⟩ := h
    rw [Option.map_eq_some_iff] at h2
    obtain ⟨z, _, rfl⟩ := h2
    simp [rids_len h1]
/-- The loops' states. -/
def NI (w : World) (B p q : Nat) (m : Msg) (s : Sl) (l : List UInt8) (j : Nat) (wr : World) : Prop := ∃ xs r A c, rnodes j l = some (xs, r) ∧ Rd wr B p r ∧ Blk wr q 27 (mv { m with nodes := xs } { s with na := A, nc := c }) ∧ Mem.Own wr w.heap.size 3 A c (xs.map iv) ∧ Fr (fun k => k = p ∨ k = q) w wr
def DI (w : World) (B p q : Nat) (m : Msg) (s : Sl) (l : List UInt8) (j : Nat) (wr : World) : Prop := ∃ xs r A c, rids j l = some (xs, r) ∧ Rd wr B p r ∧ Blk wr q 27 (mv { m with ids := xs } { s with ia := A, ic := c }) ∧ OwnK wr w.heap.size 50 2 A xs.length c (xs.flatMap dc) ∧ Fr (fun k => k = p ∨ k = q) w wr
set_option maxRecDepth 100000 in
set_option maxHeartbeats 8000000 in
theorem get9_any (w : World) (B B2 p q : Nat) (m : Msg) (s : Sl) (l : List UInt8) (h : Rd w B p l) (hB : Blk w q 27 (mv m s)) (hR : RowsO w B2 m s) (hB2 : B2 ≤ w.heap.size) (hq : B ≤ q ∧ q ≠ p) (hf : m.nodes = [] ∧ s.na = none ∧ s.nc = 0) :
    Calls Tryd.prog 36 #[.pointer (some ⟨p, 0, none⟩), .int .u16 (bit 9), .pointer (some ⟨q, 0, none⟩)] w (GetR w B B2 p q 9 s (rf m l 9)) := by
  rw [show bit 9 = 512 from rfl]
  have HQ := Lib.hid (And.intro hq hB)
  have HRO := Lib.hid (And.intro hR (And.intro hf h))
  have HB2 := Lib.hid hB2
  clear hB2
  have hrf : rf m l 9 = (rnum 1 l).bind fun p => (rnodes p.1 p.2).map fun q => ({ m with nodes := m.nodes ++ q.1 }, q.2) := rfl
  rw [hrf]
  rw [hf.1]
  have hmv : mv m s = mv { m with nodes := [] } { s with na := none, nc := 0 } := by unfold mv; simp [hf.1, hf.2.1, hf.2.2]
  have HMV := Lib.hid hmv
  clear hq hB hR hf hrf hmv
  cases h1 : rnum 1 l with
  | none =>
    have H1 := Lib.hid h1
    clear h1
    go_enter Tryd.func36, Tryd.ntmps36
    go_wp2_with fail
    refine (number_any w B p 1 l h (by decide)).mono ?_
    rintro e w1 he
    rw [H1.out] at he
    obtain ⟨hf, rfl⟩ := he
    have HF := Lib.hid hf
    clear hf
    go_wp2_with fail
    exact ⟨rfl, HF.out.mono fun k _ h => .inl h, rfl, _, _, HQ.out.2.fr HF.out HQ.out.1.2⟩
  | some x =>
    obtain ⟨n, r⟩ := x
    have hn := (rnum_some h1).1
    dsimp only at hn
    have HSG := Lib.hid (show sgn n = (n : Int) from sgn_small (by omega))
    have HN := Lib.hid (show n < 256 by omega)
    have H1 := Lib.hid h1
    clear h1 hn
    rw [Option.bind_some]
    dsimp only
    go_enter Tryd.func36, Tryd.ntmps36
    go_wp2_with fail
    refine (number_any w B p 1 l h (by decide)).mono ?_
    rintro e w1 he
    rw [H1.out] at he
    obtain ⟨hf, rfl, hrd⟩ := he
    dsimp only [Option.map_some] at hrd ⊢
    rw [HSG.out]
    have HS := Lib.hid (show NI w B p q m s r 0 w1 from ⟨[], r, none, 0, rfl, hrd, by have := HQ.out.2.fr hf HQ.out.1.2; rw [HMV.out] at this; exact this, Own.nil, hf.mono fun k _ h => .inl h⟩)
    have HW1 := Lib.hid hf.size
    clear hf hrd h
    have hn0 : (0 : Int) ≤ (n : Int) := by omega
    have hn1 : (n : Int) ≤ 255 := by have := HN.out; omega
    go_wp2_with fail
    go_loopw [95] (fun i wr => ∃ j : Nat, i = .int .i64 (j : Int) ∧ j ≤ n ∧ NI w B p q m s r j wr) (fun i _ => n - (intOf i).toNat)
    case atStart => exact ⟨0, rfl, Nat.zero_le _, HS.out⟩
    case round =>
      clear HS
      obtain ⟨j, rfl, hj, hI⟩ := hrel
      have HI := Lib.hid hI
      by_cases hjn : j < n
      · obtain ⟨xs, r1, A, c, g1, g2, g3, g4, g5⟩ := hI
        have hxl := rnodes_len g1
        dsimp only at hxl
        have c12 := g3.cell 12
        simp [mv] at c12
        rw [hxl] at c12
        have HX := Lib.hid (And.intro g1 (And.intro g2 (And.intro g3 (And.intro g4 g5))))
        have HXL := Lib.hid hxl
        have HJ := Lib.hid (And.intro hjn c12)
        have h1 : (j : Int) < (n : Int) := by omega
        have h0 : (0 : Int) ≤ (j : Int) := by omega
        clear g1 g2 g3 g4 g5 hxl c12
        go_wp2_with fail
        refine wp_region_pan [] (fun ch V => ch = thrown ∧ rnodes (j + 1) r = none ∧ Fr (fun k => k = p ∨ k = q) w V ∧ ∃ m' s', Blk V q 27 (mv m' s')) (fun ch a' w' hd hp => ?pan) ?_
        case pan =>
          obtain ⟨rfl, hnn, hff, hbb⟩ := hp
          go_wp2_with fail
          rw [rnodes_none hnn n HJ.out.1]
          exact ⟨hd, hff, rfl, hbb⟩
        refine wp_heldG (fun V => V.cell? ⟨q, 12, none⟩ = some (.slice A j c)) [11] (by kernel_rfl) ?hs0 ?rg0
        case hs0 =>
          exact HJ.out.2
        case rg0 =>
        intro hHeld
        refine wpAnyG_pure (i := 0) (oi := { dst := some 97, op := Op.move (Operand.tmp 2), type := 76, pos := _, after := #[], guard := none }) (v := ?_) rfl (by kernel_rfl) (by kernel_rfl) (by kernel_rfl) (by kernel_rfl) (fun _ _ _ h => h) (Or.inl ⟨by rfl, ?_⟩) (fun _ => by assumption) ?_
        rotate_left
        · intro w hSw
          try dsimp only at hSw
          go_simp
          try with_reducible rfl
        try simp only [Act.put, List.setIfInBounds_toArray, List.set_cons_zero, List.set_cons_succ]
        refine wpAnyG_pure (i := 1) (oi := { dst := some 98, op := Op.move (Operand.tmp 2), type := 76, pos := _, after := #[], guard := none }) (v := ?_) rfl (by kernel_rfl) (by kernel_rfl) (by kernel_rfl) (by kernel_rfl) (fun _ _ _ h => h) (Or.inl ⟨by rfl, ?_⟩) (fun _ => by assumption) ?_
        rotate_left
        · intro w hSw
          try dsimp only at hSw
          go_simp
          try with_reducible rfl
        try simp only [Act.put, List.setIfInBounds_toArray, List.set_cons_zero, List.set_cons_succ]
        refine wpAnyG_pure (i := 2) (oi := { dst := some 99, op := Op.nilCheck (Operand.tmp 98), type := 0, pos := _, after := #[{ on := 1, ground := Ground.data }], guard := none }) (v := ?_) rfl (by kernel_rfl) (by kernel_rfl) (by kernel_rfl) (by kernel_rfl) (fun _ _ _ h => h) (Or.inl ⟨by rfl, ?_⟩) (fun _ => by assumption) ?_
        rotate_left
        · intro w hSw
          try dsimp only at hSw
          go_simp
          try with_reducible rfl
        try simp only [Act.put, List.setIfInBounds_toArray, List.set_cons_zero, List.set_cons_succ]
        refine wpAnyG_pure (i := 3) (oi := { dst := some 100, op := Op.fieldAddr 27 (Operand.tmp 99) 12, type := 0, pos := _, after := #[{ on := 2, ground := Ground.data }], guard := none }) (v := ?_) rfl (by kernel_rfl) (by kernel_rfl) (by kernel_rfl) (by kernel_rfl) (fun _ _ _ h => h) (Or.inl ⟨by rfl, ?_⟩) (fun _ => by assumption) ?_
        rotate_left
        · intro w hSw
          try dsimp only at hSw
          go_simp
          try with_reducible rfl
        try simp only [Act.put, List.setIfInBounds_toArray, List.set_cons_zero, List.set_cons_succ]
        refine wpAnyG_take (i := 4) (oi := { dst := some 101, op := Op.load 24 (Operand.tmp 100), type := 24, pos := _, after := #[{ on := 3, ground := Ground.data }], guard := none }) (v := ?_) rfl (by kernel_rfl) (by kernel_rfl) (by kernel_rfl) (by kernel_rfl) (fun _ _ _ h => h) (Or.inl ⟨by rfl, ?_⟩) (by assumption) ?_
        rotate_left
        · intro w hSw
          try dsimp only at hSw
          go_simp
          try with_reducible rfl
        try simp only [Act.put, List.setIfInBounds_toArray, List.set_cons_zero, List.set_cons_succ]
        refine wpAnyG_pure (i := 5) (oi := { dst := some 102, op := Op.move (Operand.tmp 0), type := 71, pos := _, after := #[], guard := none }) (v := ?_) rfl (by kernel_rfl) (by kernel_rfl) (by kernel_rfl) (by kernel_rfl) (fun _ _ _ h => h) (Or.inl ⟨by rfl, ?_⟩) (fun _ => by assumption) ?_
        rotate_left
        · intro w hSw
          try dsimp only at hSw
          go_simp
          try with_reducible rfl
        try simp only [Act.put, List.setIfInBounds_toArray, List.set_cons_zero, List.set_cons_succ]
        refine wpAnyG_one (i := 6) (o := { dst := some 103, op := Op.call { callee := Callee.value (Operand.func 35), args := #[Operand.tmp 102, Operand.const (Value.int IntKind.i64 2)], argTypes := #[71, 3] }, type := 2, pos := _, after := #[{ on := 5, ground := Ground.data }], guard := none }) (by kernel_rfl) rfl (fun K hK => ?_)
        go_simp
        refine (number_any _ B p 2 r1 (HX.out.2.1.keep (nextN (Mem.start wr) 1)) (by decide)).mono ?_
        rintro e w4 he
        rcases h2 : rnum 2 r1 with _ | ⟨v, r2⟩
        · rw [h2] at he
          obtain ⟨hf, rfl⟩ := he
          refine ⟨rfl, rfl, ?_, ?_, _, _, (HX.out.2.2.1.keep (nextN (Mem.start wr) 1)).fr hf HQ.out.1.2⟩
          · rw [rnodes_snoc, HX.out.1, Option.bind_some, h2]; rfl
          · exact (HX.out.2.2.2.2.trans (Fr.quiet (S := fun _ => False) (nextN (Mem.start wr) 1)) fun _ _ h => h.elim).trans hf fun k _ h => .inl h
        rw [h2] at he
        obtain ⟨hf, rfl, hr2⟩ := he
        dsimp only [Option.map_some] at hr2 ⊢
        have hv := (rnum_some h2).1
        dsimp only at hv
        rw [sgn_small (show v < 9223372036854775808 by omega)]
        have hfw : Fr (fun k => k = p) wr w4 := (Fr.quiet (S := fun k => k = p) (nextN (Mem.start wr) 1)).trans hf fun _ _ h => h
        have HF2 := Lib.hid hfw
        have HD2 := Lib.hid (And.intro hr2 h2)
        have HB4 := Lib.hid (HX.out.2.2.1.fr hfw HQ.out.1.2)
        have HO4 := Lib.hid (HX.out.2.2.2.1.fr hfw (fun g hg e => by obtain ⟨_, A9, c9, hp9, _⟩ := HX.out.2.1; exact hp9.ne_own HX.out.2.2.2.1 (by decide) _ hg e))
        have HW4 := Lib.hid (show w.heap.size ≤ w4.heap.size from Nat.le_trans HX.out.2.2.2.2.size hfw.size)
        clear hr2 h2 hv hfw
        refine hK.out _ _ ?_ (fun hHeld => ?_)
        · intro _
          try dsimp only
          exact cellFr hf hHeld HQ.out.1.2
        clear hK K
        try simp only [Act.put, List.setIfInBounds_toArray, List.set_cons_zero, List.set_cons_succ]
        have hHeld := hHeld (by kernel_rfl)
        refine wpAnyG_one (i := 7) (o := { dst := some 104, op := Op.buildSlice 24 1 #[(0, Operand.tmp 103)], type := 24, pos := _, after := #[{ on := 6, ground := Ground.data }], guard := none }) (by kernel_rfl) rfl (fun K hK => ?_)
        go_simp
        try dsimp only
        refine hK.out _ _ ?_ (fun hHeld => ?_)
        · intro _
          try dsimp only
          exact (Below.cell (nextA (Mem.start w4) _) (World.block_lt_of_cell? _ _ hHeld)).trans hHeld
        clear hK K
        try simp only [Act.put, List.setIfInBounds_toArray, List.set_cons_zero, List.set_cons_succ]
        have hHeld := hHeld (by kernel_rfl)
        refine wpAnyG_one (i := 8) (o := { dst := some 105, op := Op.call { callee := Callee.builtin Builtin.append, args := #[Operand.tmp 101, Operand.tmp 104], argTypes := #[24, 24] }, type := 24, pos := _, after := #[{ on := 4, ground := Ground.data }, { on := 7, ground := Ground.data }, { on := 6, ground := Ground.chain }], guard := none }) (by kernel_rfl) rfl (fun K hK => ?_)
        obtain ⟨i0, hi0, hz0, hz1, hz2⟩ := info_parts iinfo9
        refine step_app (w4.alloc (.cells #[.int .i64 (v : Int)] 3)) rfl (.tmp 101) (.tmp 104) 24 (by rfl) w.heap.size 3 i0 _ 8 Tryd.underlying24 hi0 hz0 hz1 hz2 rfl A c j (xs.map iv) (by rfl) (by rw [List.length_map]; exact HXL.out.symm) (HO4.out.keep (nextA (Mem.start w4) _)) (w4.heap.size + 1) (some ⟨w4.heap.size, 0, none⟩) 1 1 [.int .i64 (v : Int)] (by rfl) (by rfl) (cells_one w4 _ _ _ (Nat.lt_succ_self _)) (fun u hu => by simp at hu; subst hu; rfl) (by rw [List.length_map, HXL.out]; have := HN.out; have := HJ.out.1; unfold maxLen; simp; omega) (by rw [List.length_map, HXL.out]; have := HN.out; have := HJ.out.1; simp; omega) (by have := HW4.out; simp; omega) (j + 1) rfl ?_
        intro A3 c3 w5 ho3 hb3 hg3 hA3
        have ho4 : Mem.Own w5 w.heap.size 3 A3 c3 ((xs ++ [(v : Int)]).map iv) := by rw [List.map_append]; exact ho3
        have hf5 : Fr (fun k => A.map (·.block) = some k) w4 w5 := (Fr.quiet (S := fun k => A.map (·.block) = some k) (nextA (Mem.start w4) _)).trans (Fr.grown (S := fun k => A.map (·.block) = some k) hg3 fun k h => h) fun _ _ h => h
        have hlo : ∀ k, k < w.heap.size → ¬ A.map (·.block) = some k := fun k hk h => by
          rcases HO4.out.form with ⟨e, _⟩ | ⟨g2, e, hg2, _⟩
          · rw [e] at h; cases h
          · rw [e] at h; injection h with h; dsimp only at h; omega
        have HO5 := Lib.hid (And.intro ho4 (And.intro hf5 hlo))
        clear ho3 hb3 hg3 hA3 hf5 hlo ho4 hi0 hz0 hz1 hz2
        try dsimp only
        refine hK.out _ _ ?_ (fun hHeld => ?_)
        · intro _
          try dsimp only
          have hB5 := HB4.out.fr HO5.out.2.1 (fun h => by rcases HO4.out.form with ⟨e, _⟩ | ⟨g2, e, hg2, _⟩; (rw [e] at h; cases h); (rw [e] at h; injection h with h; dsimp only at h; exact HB4.out.ne_own HO4.out (by decide) _ e h))
          have := hB5.cell 12
          simp [mv] at this
          rw [HXL.out] at this
          exact this
        clear hK K
        try simp only [Act.put, List.setIfInBounds_toArray, List.set_cons_zero, List.set_cons_succ]
        have hHeld := hHeld (by kernel_rfl)
        refine wpAnyG_pure (i := 9) (oi := { dst := some 106, op := Op.nilCheck (Operand.tmp 97), type := 0, pos := _, after := #[{ on := 0, ground := Ground.data }, { on := 0, ground := Ground.phase }, { on := 1, ground := Ground.phase }, { on := 2, ground := Ground.phase }, { on := 3, ground := Ground.phase }, { on := 4, ground := Ground.phase }, { on := 5, ground := Ground.phase }, { on := 6, ground := Ground.phase }, { on := 7, ground := Ground.phase }, { on := 8, ground := Ground.phase }], guard := none }) (v := ?_) rfl (by kernel_rfl) (by kernel_rfl) (by kernel_rfl) (by kernel_rfl) (fun _ _ _ h => h) (Or.inl ⟨by rfl, ?_⟩) (fun _ => by assumption) ?_
        rotate_left
        · intro w hSw
          try dsimp only at hSw
          go_simp
          try with_reducible rfl
        try simp only [Act.put, List.setIfInBounds_toArray, List.set_cons_zero, List.set_cons_succ]
        refine wpAnyG_pure (i := 10) (oi := { dst := some 107, op := Op.fieldAddr 27 (Operand.tmp 106) 12, type := 0, pos := _, after := #[{ on := 9, ground := Ground.data }, { on := 0, ground := Ground.phase }, { on := 1, ground := Ground.phase }, { on := 2, ground := Ground.phase }, { on := 3, ground := Ground.phase }, { on := 4, ground := Ground.phase }, { on := 5, ground := Ground.phase }, { on := 6, ground := Ground.phase }, { on := 7, ground := Ground.phase }, { on := 8, ground := Ground.phase }], guard := none }) (v := ?_) rfl (by kernel_rfl) (by kernel_rfl) (by kernel_rfl) (by kernel_rfl) (fun _ _ _ h => h) (Or.inl ⟨by rfl, ?_⟩) (fun _ => by assumption) ?_
        rotate_left
        · intro w hSw
          try dsimp only at hSw
          go_simp
          try with_reducible rfl
        try simp only [Act.put, List.setIfInBounds_toArray, List.set_cons_zero, List.set_cons_succ]
        refine wpAnyG_one (i := 11) (o := { dst := none, op := Op.store 24 (Operand.tmp 107) (Operand.tmp 105), type := 0, pos := _, after := #[{ on := 10, ground := Ground.data }, { on := 8, ground := Ground.data }, { on := 8, ground := Ground.chain }, { on := 0, ground := Ground.phase }, { on := 1, ground := Ground.phase }, { on := 2, ground := Ground.phase }, { on := 3, ground := Ground.phase }, { on := 4, ground := Ground.phase }, { on := 5, ground := Ground.phase }, { on := 6, ground := Ground.phase }, { on := 7, ground := Ground.phase }, { on := 8, ground := Ground.phase }], guard := none }) (by kernel_rfl) rfl (fun K hK => ?_)
        have hB5 := HB4.out.fr HO5.out.2.1 (fun h => by rcases HO4.out.form with ⟨e, _⟩ | ⟨g2, e, hg2, _⟩; (rw [e] at h; cases h); (rw [e] at h; injection h with h; dsimp only at h; exact HB4.out.ne_own HO4.out (by decide) _ e h))
        have HB5 := Lib.hid hB5
        have z0 := hB5.frozen 12
        have cc0 := hB5.cell 12
        simp [mv] at cc0
        clear hB5
        go_simp
        try dsimp only
        clear z0 cc0
        refine hK.out _ _ ?_ (fun hHeld => ?_)
        · exact fun h => (st_no (by kernel_rfl) h).elim
        clear hK K
        try simp only [Act.put, List.setIfInBounds_toArray, List.set_cons_zero, List.set_cons_succ]
        clear hHeld
        refine wpAnyG_done (by kernel_rfl) ?_ _
        refine PanQ.normal ?_
        have hset : Fr (fun k => k = q) w5 (w5.setCell ⟨q, 12, none⟩ (.slice A3 (j + 1) c3)) := Fr.setCell (S := fun k => k = q) (w' := w5) (Fr.refl _ w5) (p := ⟨q, 12, none⟩) (fun _ => rfl) _
        have hrd5 : Rd w5 B p r2 := HD2.out.1.fr HO5.out.2.1 (fun k hk => by
          by_cases hlt : k < w.heap.size
          · exact absurd hk (HO5.out.2.2 k hlt)
          · have := HQ.out.2.lt; have := HQ.out.1.1; omega) (fun h => by rcases HO4.out.form with ⟨e, _⟩ | ⟨g2, e, hg2, _⟩; (rw [e] at h; cases h); (rw [e] at h; injection h with h; dsimp only at h; obtain ⟨_, A9, c9, hp9, _⟩ := HD2.out.1; exact hp9.ne_own HO4.out (by decide) _ e h))
        have HFIN := Lib.hid (show NI w B p q m s r (j + 1) (w5.setCell ⟨q, 12, none⟩ (.slice A3 (j + 1) c3)) from ⟨xs ++ [(v : Int)], r2, A3, c3, by rw [rnodes_snoc, HX.out.1, Option.bind_some, HD2.out.2]; rfl, hrd5.fr hset (fun k hk => by have := HQ.out.1.1; omega) (fun h => HQ.out.1.2 h.symm), by
            have := HB5.out.set_ 12 (.slice A3 (j + 1) c3)
            rw [← HXL.out] at this ⊢
            simpa [mv] using this, HO5.out.1.fr hset (fun g hg e => HB5.out.ne_own HO5.out.1 (by decide) _ hg e), by
            refine ((HX.out.2.2.2.2.trans HF2.out fun k _ h => .inl h).trans HO5.out.2.1 fun k hk h => (HO5.out.2.2 k hk h).elim).trans hset fun k _ h => .inr h⟩)
        clear hset hrd5
        go_wp2_with fail
        go_roundw
        case rel => exact ⟨j + 1, by go_num, HJ.out.1, HFIN.out⟩
        case measure => simp [intOf]; have := HJ.out.1; omega
      · obtain rfl : j = n := by omega
        clear hI hjn
        go_wp2_with fail
        go_end0
        obtain ⟨xs, r1, A, c, g1, g2, g3, g4, g5⟩ := HI.out
        rw [g1]
        dsimp only [Option.map_some]
        refine ⟨g5, rfl, g2, _, g3, ?_, ?_⟩
        · have hR := HRO.out.1.frT HRO.out.2.2 HQ.out.2 g5
          have hle : B2 ≤ w.heap.size := HB2.out
          exact ⟨hR.1, g4.down hle, hR.2.2⟩
        · exact ⟨fun _ => ⟨rfl, rfl⟩, fun h => absurd rfl h, fun _ => ⟨rfl, rfl⟩⟩
set_option maxRecDepth 100000 in
set_option maxHeartbeats 8000000 in
theorem get8_any (w : World) (B B2 p q : Nat) (m : Msg) (s : Sl) (l : List UInt8) (h : Rd w B p l) (hB : Blk w q 27 (mv m s)) (hR : RowsO w B2 m s) (hB2 : B2 ≤ w.heap.size) (hq : B ≤ q ∧ q ≠ p) (hf : m.ids = [] ∧ s.ia = none ∧ s.ic = 0) :
    Calls Tryd.prog 36 #[.pointer (some ⟨p, 0, none⟩), .int .u16 (bit 8), .pointer (some ⟨q, 0, none⟩)] w (GetR w B B2 p q 8 s (rf m l 8)) := by
  rw [show bit 8 = 256 from rfl]
  have HQ := Lib.hid (And.intro hq hB)
  have HRO := Lib.hid (And.intro hR (And.intro hf h))
  have HB2 := Lib.hid hB2
  clear hB2
  have hrf : rf m l 8 = (rnum 1 l).bind fun p => (rids p.1 p.2).map fun q => ({ m with ids := m.ids ++ q.1 }, q.2) := rfl
  rw [hrf]
  rw [hf.1]
  have hmv : mv m s = mv { m with ids := [] } { s with ia := none, ic := 0 } := by unfold mv; simp [hf.1, hf.2.1, hf.2.2]
  have HMV := Lib.hid hmv
  clear hq hB hR hf hrf hmv
  cases h1 : rnum 1 l with
  | none =>
    have H1 := Lib.hid h1
    clear h1
    go_enter Tryd.func36, Tryd.ntmps36
    go_wp2_with fail
    refine (number_any w B p 1 l h (by decide)).mono ?_
    rintro e w1 he
    rw [H1.out] at he
    obtain ⟨hf, rfl⟩ := he
    have HF := Lib.hid hf
    clear hf
    go_wp2_with fail
    exact ⟨rfl, HF.out.mono fun k _ h => .inl h, rfl, _, _, HQ.out.2.fr HF.out HQ.out.1.2⟩
  | some x =>
    obtain ⟨n, r⟩ := x
    have hn := (rnum_some h1).1
    dsimp only at hn
    have HSG := Lib.hid (show sgn n = (n : Int) from sgn_small (by omega))
    have HN := Lib.hid (show n < 256 by omega)
    have H1 := Lib.hid h1
    clear h1 hn
    rw [Option.bind_some]
    dsimp only
    go_enter Tryd.func36, Tryd.ntmps36
    go_wp2_with fail
    refine (number_any w B p 1 l h (by decide)).mono ?_
    rintro e w1 he
    rw [H1.out] at he
    obtain ⟨hf, rfl, hrd⟩ := he
    dsimp only [Option.map_some] at hrd ⊢
    rw [HSG.out]
    have HS := Lib.hid (show DI w B p q m s r 0 w1 from ⟨[], r, none, 0, rfl, hrd, by have := HQ.out.2.fr hf HQ.out.1.2; rw [HMV.out] at this; exact this, OwnK.nil, hf.mono fun k _ h => .inl h⟩)
    have HW1 := Lib.hid hf.size
    clear hf hrd h
    have hn0 : (0 : Int) ≤ (n : Int) := by omega
    have hn1 : (n : Int) ≤ 255 := by have := HN.out; omega
    go_wp2_with fail
    go_loopw [74] (fun i wr => ∃ j : Nat, i = .int .i64 (j : Int) ∧ j ≤ n ∧ DI w B p q m s r j wr) (fun i _ => n - (intOf i).toNat)
    case atStart => exact ⟨0, rfl, Nat.zero_le _, HS.out⟩
    case round =>
      clear HS
      obtain ⟨j, rfl, hj, hI⟩ := hrel
      have HI := Lib.hid hI
      by_cases hjn : j < n
      · obtain ⟨xs, r1, A, c, g1, g2, g3, g4, g5⟩ := hI
        have hxl := rids_len g1
        dsimp only at hxl
        have c11 := g3.cell 11
        simp [mv] at c11
        rw [hxl] at c11 g4
        have HX := Lib.hid (And.intro g1 (And.intro g2 (And.intro g3 (And.intro g4 g5))))
        have HXL := Lib.hid hxl
        have HJ := Lib.hid (And.intro hjn c11)
        have h1 : (j : Int) < (n : Int) := by omega
        have h0 : (0 : Int) ≤ (j : Int) := by omega
        clear g1 g2 g3 g4 g5 hxl c11
        go_wp2_with fail
        refine wp_region_pan [] (fun ch V => ch = thrown ∧ rids (j + 1) r = none ∧ Fr (fun k => k = p ∨ k = q) w V ∧ ∃ m' s', Blk V q 27 (mv m' s')) (fun ch a' w' hd hp => ?pan) ?_
        case pan =>
          obtain ⟨rfl, hnn, hff, hbb⟩ := hp
          go_wp2_with fail
          rw [rids_none hnn n HJ.out.1]
          exact ⟨hd, hff, rfl, hbb⟩
        refine wp_heldG (fun V => V.cell? ⟨q, 11, none⟩ = some (.slice A j c)) [14] (by kernel_rfl) ?hs0 ?rg0
        case hs0 =>
          exact HJ.out.2
        case rg0 =>
        intro hHeld
        refine wpAnyG_pure (i := 0) (oi := { dst := some 76, op := Op.move (Operand.tmp 2), type := 76, pos := _, after := #[], guard := none }) (v := ?_) rfl (by kernel_rfl) (by kernel_rfl) (by kernel_rfl) (by kernel_rfl) (fun _ _ _ h => h) (Or.inl ⟨by rfl, ?_⟩) (fun _ => by assumption) ?_
        rotate_left
        · intro w hSw
          try dsimp only at hSw
          go_simp
          try with_reducible rfl
        try simp only [Act.put, List.setIfInBounds_toArray, List.set_cons_zero, List.set_cons_succ]
        refine wpAnyG_pure (i := 1) (oi := { dst := some 77, op := Op.move (Operand.tmp 2), type := 76, pos := _, after := #[], guard := none }) (v := ?_) rfl (by kernel_rfl) (by kernel_rfl) (by kernel_rfl) (by kernel_rfl) (fun _ _ _ h => h) (Or.inl ⟨by rfl, ?_⟩) (fun _ => by assumption) ?_
        rotate_left
        · intro w hSw
          try dsimp only at hSw
          go_simp
          try with_reducible rfl
        try simp only [Act.put, List.setIfInBounds_toArray, List.set_cons_zero, List.set_cons_succ]
        refine wpAnyG_pure (i := 2) (oi := { dst := some 78, op := Op.nilCheck (Operand.tmp 77), type := 0, pos := _, after := #[{ on := 1, ground := Ground.data }], guard := none }) (v := ?_) rfl (by kernel_rfl) (by kernel_rfl) (by kernel_rfl) (by kernel_rfl) (fun _ _ _ h => h) (Or.inl ⟨by rfl, ?_⟩) (fun _ => by assumption) ?_
        rotate_left
        · intro w hSw
          try dsimp only at hSw
          go_simp
          try with_reducible rfl
        try simp only [Act.put, List.setIfInBounds_toArray, List.set_cons_zero, List.set_cons_succ]
        refine wpAnyG_pure (i := 3) (oi := { dst := some 79, op := Op.fieldAddr 27 (Operand.tmp 78) 11, type := 0, pos := _, after := #[{ on := 2, ground := Ground.data }], guard := none }) (v := ?_) rfl (by kernel_rfl) (by kernel_rfl) (by kernel_rfl) (by kernel_rfl) (fun _ _ _ h => h) (Or.inl ⟨by rfl, ?_⟩) (fun _ => by assumption) ?_
        rotate_left
        · intro w hSw
          try dsimp only at hSw
          go_simp
          try with_reducible rfl
        try simp only [Act.put, List.setIfInBounds_toArray, List.set_cons_zero, List.set_cons_succ]
        refine wpAnyG_take (i := 4) (oi := { dst := some 80, op := Op.load 23 (Operand.tmp 79), type := 23, pos := _, after := #[{ on := 3, ground := Ground.data }], guard := none }) (v := ?_) rfl (by kernel_rfl) (by kernel_rfl) (by kernel_rfl) (by kernel_rfl) (fun _ _ _ h => h) (Or.inl ⟨by rfl, ?_⟩) (by assumption) ?_
        rotate_left
        · intro w hSw
          try dsimp only at hSw
          go_simp
          try with_reducible rfl
        try simp only [Act.put, List.setIfInBounds_toArray, List.set_cons_zero, List.set_cons_succ]
        refine wpAnyG_pure (i := 5) (oi := { dst := some 81, op := Op.move (Operand.tmp 0), type := 71, pos := _, after := #[], guard := none }) (v := ?_) rfl (by kernel_rfl) (by kernel_rfl) (by kernel_rfl) (by kernel_rfl) (fun _ _ _ h => h) (Or.inl ⟨by rfl, ?_⟩) (fun _ => by assumption) ?_
        rotate_left
        · intro w hSw
          try dsimp only at hSw
          go_simp
          try with_reducible rfl
        try simp only [Act.put, List.setIfInBounds_toArray, List.set_cons_zero, List.set_cons_succ]
        refine wpAnyG_pure (i := 7) (oi := { dst := some 83, op := Op.move (Operand.tmp 0), type := 71, pos := _, after := #[], guard := none }) (v := ?_) rfl (by kernel_rfl) (by kernel_rfl) (by kernel_rfl) (by kernel_rfl) (fun _ _ _ h => h) (Or.inl ⟨by rfl, ?_⟩) (fun _ => by assumption) ?_
        rotate_left
        · intro w hSw
          try dsimp only at hSw
          go_simp
          try with_reducible rfl
        try simp only [Act.put, List.setIfInBounds_toArray, List.set_cons_zero, List.set_cons_succ]
        refine wpAnyG_one (i := 6) (o := { dst := some 82, op := Op.call { callee := Callee.value (Operand.func 63), args := #[Operand.tmp 81], argTypes := #[71] }, type := 9, pos := _, after := #[{ on := 5, ground := Ground.data }], guard := none }) (by kernel_rfl) rfl (fun K hK => ?_)
        go_simp
        refine (rtext_any _ B p r1 (HX.out.2.1.keep (nextN (Mem.start wr) 1))).mono ?_
        rintro e w3 he
        rcases h2 : rtxt r1 with _ | ⟨ky, r2⟩
        · rw [h2] at he
          obtain ⟨hf, rfl⟩ := he
          refine ⟨rfl, rfl, ?_, ?_, _, _, (HX.out.2.2.1.keep (nextN (Mem.start wr) 1)).fr hf HQ.out.1.2⟩
          · rw [rids_snoc, HX.out.1, Option.bind_some]; unfold rid; rw [h2]; rfl
          · exact (HX.out.2.2.2.2.trans (Fr.quiet (S := fun _ => False) (nextN (Mem.start wr) 1)) fun _ _ h => h.elim).trans hf fun k _ h => .inl h
        rw [h2] at he
        obtain ⟨hf, rfl, hr2⟩ := he
        dsimp only [Option.map_some] at hr2 ⊢
        have hfw : Fr (fun k => k = p) wr w3 := (Fr.quiet (S := fun k => k = p) (nextN (Mem.start wr) 1)).trans hf fun _ _ h => h
        have HF1 := Lib.hid hfw
        have HD1 := Lib.hid (And.intro hr2 h2)
        clear hr2 h2 hfw
        refine hK.out _ _ ?_ (fun hHeld => ?_)
        · intro _
          try dsimp only
          exact cellFr hf hHeld HQ.out.1.2
        clear hK K
        try simp only [Act.put, List.setIfInBounds_toArray, List.set_cons_zero, List.set_cons_succ]
        have hHeld := hHeld (by kernel_rfl)
        refine wpAnyG_one (i := 8) (o := { dst := some 84, op := Op.call { callee := Callee.value (Operand.func 35), args := #[Operand.tmp 83, Operand.const (Value.int IntKind.i64 8)], argTypes := #[71, 3] }, type := 2, pos := _, after := #[{ on := 7, ground := Ground.data }, { on := 6, ground := Ground.chain }], guard := none }) (by kernel_rfl) rfl (fun K hK => ?_)
        go_simp
        refine (number_any _ B p 8 r2 HD1.out.1 (by decide)).mono ?_
        rintro e w4 he
        rcases h2 : rnum 8 r2 with _ | ⟨v, r3⟩
        · rw [h2] at he
          obtain ⟨hf, rfl⟩ := he
          have hfw : Fr (fun k => k = p) wr w4 := HF1.out.trans hf fun _ _ h => h
          refine ⟨rfl, rfl, ?_, HX.out.2.2.2.2.trans hfw fun k _ h => .inl h, _, _, HX.out.2.2.1.fr hfw HQ.out.1.2⟩
          rw [rids_snoc, HX.out.1, Option.bind_some]; unfold rid; rw [HD1.out.2, Option.bind_some, h2]; rfl
        rw [h2] at he
        obtain ⟨hf, rfl, hr2⟩ := he
        dsimp only [Option.map_some] at hr2 ⊢
        obtain ⟨vv, hvv⟩ : ∃ vv, sgn v = vv := ⟨_, rfl⟩
        rw [hvv]
        have hid : rid r1 = some ((ky, vv), r3) := by unfold rid; rw [HD1.out.2, Option.bind_some, h2, ← hvv]; rfl
        have hfw : Fr (fun k => k = p) wr w4 := HF1.out.trans hf fun _ _ h => h
        have HF2 := Lib.hid hfw
        have HD2 := Lib.hid (And.intro hr2 hid)
        have HB4 := Lib.hid (HX.out.2.2.1.fr hfw HQ.out.1.2)
        have HO4 := Lib.hid (HX.out.2.2.2.1.fr hfw (fun g hg e => by obtain ⟨_, A9, c9, hp9, _⟩ := HX.out.2.1; exact blk_ne_ownK hp9 HX.out.2.2.2.1 (by decide) (by rw [hg, e])))
        have HW4 := Lib.hid (show w.heap.size ≤ w4.heap.size from Nat.le_trans HX.out.2.2.2.2.size hfw.size)
        clear hr2 h2 hfw hid hvv
        refine hK.out _ _ ?_ (fun hHeld => ?_)
        · intro _
          try dsimp only
          exact cellFr hf hHeld HQ.out.1.2
        clear hK K
        try simp only [Act.put, List.setIfInBounds_toArray, List.set_cons_zero, List.set_cons_succ]
        have hHeld := hHeld (by kernel_rfl)
        refine wpAnyG_pure (i := 9) (oi := { dst := some 85, op := Op.build 50 #[(0, Operand.tmp 82), (1, Operand.tmp 84)], type := 50, pos := _, after := #[{ on := 6, ground := Ground.data }, { on := 8, ground := Ground.data }], guard := none }) (v := ?_) rfl (by kernel_rfl) (by kernel_rfl) (by kernel_rfl) (by kernel_rfl) (fun _ _ _ h => h) (Or.inl ⟨by rfl, ?_⟩) (fun _ => by assumption) ?_
        rotate_left
        · intro w hSw
          try dsimp only at hSw
          go_simp
          try with_reducible rfl
        try simp only [Act.put, List.setIfInBounds_toArray, List.set_cons_zero, List.set_cons_succ]
        refine wpAnyG_one (i := 10) (o := { dst := some 86, op := Op.buildSlice 23 1 #[(0, Operand.tmp 85)], type := 23, pos := _, after := #[{ on := 9, ground := Ground.data }], guard := none }) (by kernel_rfl) rfl (fun K hK => ?_)
        go_simp
        try dsimp only
        refine hK.out _ _ ?_ (fun hHeld => ?_)
        · intro _
          try dsimp only
          exact (Below.cell (nextA (Mem.start w4) _) (World.block_lt_of_cell? _ _ hHeld)).trans hHeld
        clear hK K
        try simp only [Act.put, List.setIfInBounds_toArray, List.set_cons_zero, List.set_cons_succ]
        have hHeld := hHeld (by kernel_rfl)
        refine wpAnyG_one (i := 11) (o := { dst := some 87, op := Op.call { callee := Callee.builtin Builtin.append, args := #[Operand.tmp 80, Operand.tmp 86], argTypes := #[23, 23] }, type := 23, pos := _, after := #[{ on := 4, ground := Ground.data }, { on := 10, ground := Ground.data }, { on := 8, ground := Ground.chain }], guard := none }) (by kernel_rfl) rfl (fun K hK => ?_)
        obtain ⟨i0, hi0, hz0, hz1, hz2⟩ := info_parts idinfo9
        refine step_appK (w4.alloc (.cells #[.string (str ky), .int .i64 vv] 50)) rfl (.tmp 80) (.tmp 86) 23 (by rfl) w.heap.size 50 i0 _ 2 24 Tryd.underlying23 hi0 hz0 hz1 hz2 (by rfl) (by decide) A c j (xs.flatMap dc) (by rfl) (HO4.out.keep (nextA (Mem.start w4) _)) (w4.heap.size + 1) (some ⟨w4.heap.size, 0, none⟩) 1 1 (dc (ky, vv)) (by rfl) ?cl (by rfl) (fun u hu => by simp [dc] at hu; rcases hu with rfl | rfl <;> rfl) (by have := HN.out; have := HJ.out.1; unfold maxLen; omega) (by have := HN.out; have := HJ.out.1; omega) (by have := HW4.out; simp; omega) (j + 1) rfl ?_
        case cl => exact fun _ => ⟨w4.heap.size, 0, rfl, Nat.lt_succ_self _, fun qq v hv => by rw [Nat.zero_add]; exact (new_cell w4 _ _ _ qq).trans (by rw [← hv]; simp [dc])⟩
        intro A3 c3 w5 ho3 hb3 hg3 hA3
        have ho4 : OwnK w5 w.heap.size 50 2 A3 (j + 1) c3 ((xs ++ [(ky, vv)]).flatMap dc) := by rw [List.flatMap_append]; simpa using ho3
        have hf5 : Fr (fun k => A.map (·.block) = some k) w4 w5 := (Fr.quiet (S := fun k => A.map (·.block) = some k) (nextA (Mem.start w4) _)).trans (Fr.grown (S := fun k => A.map (·.block) = some k) hg3 fun k h => h) fun _ _ h => h
        have hlo : ∀ k, k < w.heap.size → ¬ A.map (·.block) = some k := fun k hk h => by
          rcases HO4.out.form with ⟨e, _⟩ | ⟨g2, e, hg2, _⟩
          · rw [e] at h; cases h
          · rw [e] at h; injection h with h; dsimp only at h; omega
        have HO5 := Lib.hid (And.intro ho4 (And.intro hf5 hlo))
        clear ho3 hb3 hg3 hA3 hf5 hlo ho4 hi0 hz0 hz1 hz2
        try dsimp only
        refine hK.out _ _ ?_ (fun hHeld => ?_)
        · intro _
          try dsimp only
          have hB5 := HB4.out.fr HO5.out.2.1 (fun h => by rcases HO4.out.form with ⟨e, _⟩ | ⟨g2, e, hg2, _⟩; (rw [e] at h; cases h); (rw [e] at h; injection h with h; dsimp only at h; exact blk_ne_ownK HB4.out HO4.out (by decide) (by rw [e, h])))
          have := hB5.cell 11
          simp [mv] at this
          rw [HXL.out] at this
          exact this
        clear hK K
        try simp only [Act.put, List.setIfInBounds_toArray, List.set_cons_zero, List.set_cons_succ]
        have hHeld := hHeld (by kernel_rfl)
        refine wpAnyG_pure (i := 12) (oi := { dst := some 88, op := Op.nilCheck (Operand.tmp 76), type := 0, pos := _, after := #[{ on := 0, ground := Ground.data }, { on := 0, ground := Ground.phase }, { on := 1, ground := Ground.phase }, { on := 2, ground := Ground.phase }, { on := 3, ground := Ground.phase }, { on := 4, ground := Ground.phase }, { on := 5, ground := Ground.phase }, { on := 6, ground := Ground.phase }, { on := 7, ground := Ground.phase }, { on := 8, ground := Ground.phase }, { on := 9, ground := Ground.phase }, { on := 10, ground := Ground.phase }, { on := 11, ground := Ground.phase }], guard := none }) (v := ?_) rfl (by kernel_rfl) (by kernel_rfl) (by kernel_rfl) (by kernel_rfl) (fun _ _ _ h => h) (Or.inl ⟨by rfl, ?_⟩) (fun _ => by assumption) ?_
        rotate_left
        · intro w hSw
          try dsimp only at hSw
          go_simp
          try with_reducible rfl
        try simp only [Act.put, List.setIfInBounds_toArray, List.set_cons_zero, List.set_cons_succ]
        refine wpAnyG_pure (i := 13) (oi := { dst := some 89, op := Op.fieldAddr 27 (Operand.tmp 88) 11, type := 0, pos := _, after := #[{ on := 12, ground := Ground.data }, { on := 0, ground := Ground.phase }, { on := 1, ground := Ground.phase }, { on := 2, ground := Ground.phase }, { on := 3, ground := Ground.phase }, { on := 4, ground := Ground.phase }, { on := 5, ground := Ground.phase }, { on := 6, ground := Ground.phase }, { on := 7, ground := Ground.phase }, { on := 8, ground := Ground.phase }, { on := 9, ground := Ground.phase }, { on := 10, ground := Ground.phase }, { on := 11, ground := Ground.phase }], guard := none }) (v := ?_) rfl (by kernel_rfl) (by kernel_rfl) (by kernel_rfl) (by kernel_rfl) (fun _ _ _ h => h) (Or.inl ⟨by rfl, ?_⟩) (fun _ => by assumption) ?_
        rotate_left
        · intro w hSw
          try dsimp only at hSw
          go_simp
          try with_reducible rfl
        try simp only [Act.put, List.setIfInBounds_toArray, List.set_cons_zero, List.set_cons_succ]
        refine wpAnyG_one (i := 14) (o := { dst := none, op := Op.store 23 (Operand.tmp 89) (Operand.tmp 87), type := 0, pos := _, after := #[{ on := 13, ground := Ground.data }, { on := 11, ground := Ground.data }, { on := 11, ground := Ground.chain }, { on := 0, ground := Ground.phase }, { on := 1, ground := Ground.phase }, { on := 2, ground := Ground.phase }, { on := 3, ground := Ground.phase }, { on := 4, ground := Ground.phase }, { on := 5, ground := Ground.phase }, { on := 6, ground := Ground.phase }, { on := 7, ground := Ground.phase }, { on := 8, ground := Ground.phase }, { on := 9, ground := Ground.phase }, { on := 10, ground := Ground.phase }, { on := 11, ground := Ground.phase }], guard := none }) (by kernel_rfl) rfl (fun K hK => ?_)
        have hB5 := HB4.out.fr HO5.out.2.1 (fun h => by rcases HO4.out.form with ⟨e, _⟩ | ⟨g2, e, hg2, _⟩; (rw [e] at h; cases h); (rw [e] at h; injection h with h; dsimp only at h; exact blk_ne_ownK HB4.out HO4.out (by decide) (by rw [e, h])))
        have HB5 := Lib.hid hB5
        have z0 := hB5.frozen 11
        have cc0 := hB5.cell 11
        simp [mv] at cc0
        clear hB5
        go_simp
        try dsimp only
        clear z0 cc0
        refine hK.out _ _ ?_ (fun hHeld => ?_)
        · exact fun h => (st_no (by kernel_rfl) h).elim
        clear hK K
        try simp only [Act.put, List.setIfInBounds_toArray, List.set_cons_zero, List.set_cons_succ]
        clear hHeld
        refine wpAnyG_done (by kernel_rfl) ?_ _
        refine PanQ.normal ?_
        have hset : Fr (fun k => k = q) w5 (w5.setCell ⟨q, 11, none⟩ (.slice A3 (j + 1) c3)) := Fr.setCell (S := fun k => k = q) (w' := w5) (Fr.refl _ w5) (p := ⟨q, 11, none⟩) (fun _ => rfl) _
        have hrd5 : Rd w5 B p r3 := HD2.out.1.fr HO5.out.2.1 (fun k hk => by
          by_cases hlt : k < w.heap.size
          · exact absurd hk (HO5.out.2.2 k hlt)
          · have := HQ.out.2.lt; have := HQ.out.1.1; omega) (fun h => by rcases HO4.out.form with ⟨e, _⟩ | ⟨g2, e, hg2, _⟩; (rw [e] at h; cases h); (rw [e] at h; injection h with h; dsimp only at h; obtain ⟨_, A9, c9, hp9, _⟩ := HD2.out.1; exact blk_ne_ownK hp9 HO4.out (by decide) (by rw [e, h])))
        have HFIN := Lib.hid (show DI w B p q m s r (j + 1) (w5.setCell ⟨q, 11, none⟩ (.slice A3 (j + 1) c3)) from ⟨xs ++ [(ky, vv)], r3, A3, c3, by rw [rids_snoc, HX.out.1, Option.bind_some, HD2.out.2]; rfl, hrd5.fr hset (fun k hk => by have := HQ.out.1.1; omega) (fun h => HQ.out.1.2 h.symm), by
            have := HB5.out.set_ 11 (.slice A3 (j + 1) c3)
            rw [← HXL.out] at this ⊢
            simpa [mv] using this, by
            have h := HO5.out.1.fr hset (fun g hg e => blk_ne_ownK HB5.out HO5.out.1 (by decide) (by rw [hg, e]))
            rw [show (xs ++ [(ky, vv)]).length = j + 1 by rw [List.length_append, HXL.out]; rfl]
            exact h, by
            refine ((HX.out.2.2.2.2.trans HF2.out fun k _ h => .inl h).trans HO5.out.2.1 fun k hk h => (HO5.out.2.2 k hk h).elim).trans hset fun k _ h => .inr h⟩)
        clear hset hrd5
        go_wp2_with fail
        go_roundw
        case rel => exact ⟨j + 1, by go_num, HJ.out.1, HFIN.out⟩
        case measure => simp [intOf]; have := HJ.out.1; omega
      · obtain rfl : j = n := by omega
        clear hI hjn
        go_wp2_with fail
        go_end0
        obtain ⟨xs, r1, A, c, g1, g2, g3, g4, g5⟩ := HI.out
        rw [g1]
        dsimp only [Option.map_some]
        refine ⟨g5, rfl, g2, _, g3, ?_, ?_⟩
        · have hR := HRO.out.1.frT HRO.out.2.2 HQ.out.2 g5
          have hle : B2 ≤ w.heap.size := HB2.out
          exact ⟨g4.down hle, hR.2.1, hR.2.2⟩
        · exact ⟨fun h => absurd rfl h, fun _ => ⟨rfl, rfl⟩, fun _ => ⟨rfl, rfl⟩⟩
set_option maxRecDepth 100000 in
set_option maxHeartbeats 8000000 in
theorem get10_any (w : World) (B B2 p q : Nat) (m : Msg) (s : Sl) (l : List UInt8) (h : Rd w B p l) (hB : Blk w q 27 (mv m s)) (hR : RowsO w B2 m s) (hB2 : B2 ≤ w.heap.size) (hq : B ≤ q ∧ q ≠ p) (hf : (m.data = [] ∧ s.da = none ∧ s.dk = 0) ∧ l.length ≤ 100000000) :
    Calls Tryd.prog 36 #[.pointer (some ⟨p, 0, none⟩), .int .u16 (bit 10), .pointer (some ⟨q, 0, none⟩)] w (GetR w B B2 p q 10 s (rf m l 10)) := by
  rw [show bit 10 = 1024 from rfl]
  have HQ := Lib.hid (And.intro hq hB)
  have HRO := Lib.hid (And.intro hR (And.intro hf h))
  have HB2 := Lib.hid hB2
  clear hB2
  have hrf : rf m l 10 = (rnum 4 l).bind fun p => (cut p.1 p.2).map fun q => ({ m with data := q.1 }, q.2) := rfl
  rw [hrf]
  clear hq hB hR hf hrf
  cases h1 : rnum 4 l with
  | none =>
    have H1 := Lib.hid h1
    clear h1
    go_enter Tryd.func36, Tryd.ntmps36
    go_wp2_with fail
    refine (number_any w B p 4 l h (by decide)).mono ?_
    rintro e w1 he
    rw [H1.out] at he
    obtain ⟨hf, rfl⟩ := he
    have HF := Lib.hid hf
    clear hf
    go_wp2_with fail
    exact ⟨rfl, HF.out.mono fun k _ h => .inl h, rfl, _, _, HQ.out.2.fr HF.out HQ.out.1.2⟩
  | some x =>
    obtain ⟨n, r⟩ := x
    have hn := (rnum_some h1).1
    dsimp only at hn
    have hrl : r.length ≤ l.length := by have := (rnum_some h1).2.2.2; dsimp only at this; rw [this, List.length_drop]; omega
    have HSG := Lib.hid (show sgn n = (n : Int) from sgn_small (by omega))
    have HN := Lib.hid (And.intro hn hrl)
    have H1 := Lib.hid h1
    clear h1 hn hrl
    rw [Option.bind_some]
    dsimp only
    by_cases hnr : n ≤ r.length
    · have hcut : cut n r = some (r.take n, r.drop n) := by unfold cut; rw [if_pos hnr]
      have hlt : (r.take n).length = n := by rw [List.length_take]; omega
      obtain ⟨d, hd⟩ : ∃ d, r.take n = d := ⟨_, rfl⟩
      rw [hcut, Option.map_some]
      dsimp only
      rw [hd] at hlt ⊢
      have HNR := Lib.hid (And.intro hnr (And.intro hd hlt))
      clear hcut hlt hnr hd
      by_cases hn0 : n = 0
      · have hg0 : decide ((0 : Int) < (n : Int)) = false := decide_eq_false (by omega)
        have hg1 : decide (0 < n) = false := decide_eq_false (by omega)
        have HN0 := Lib.hid hn0
        clear hn0
        go_enter Tryd.func36, Tryd.ntmps36
        go_wp2_with fail
        refine (number_any w B p 4 l h (by decide)).mono ?_
        rintro e w1 he
        rw [H1.out] at he
        obtain ⟨hf, rfl, hrd⟩ := he
        dsimp only [Option.map_some] at hrd ⊢
        rw [HSG.out]
        have HF := Lib.hid hf
        have HRD := Lib.hid hrd
        clear hf hrd h
        go_wp2_with fail
        refine (raw_any w1 B p n r HRD.out (by have := HN.out; omega)).mono ?_
        rintro e w2 he
        rw [if_pos HNR.out.1] at he
        obtain ⟨A, c, rfl, hnc, hcc, hby, hrd2, hf2⟩ := he
        have HF2 := Lib.hid (HF.out.trans hf2 fun _ _ h => h)
        have HR2 := Lib.hid hrd2
        clear hnc hcc hby hrd2 hf2
        go_wp2_with fail
        go_end0
        have hd0 : d = [] := List.eq_nil_of_length_eq_zero (HNR.out.2.2.trans HN0.out)
        have hf3 := HF2.out.mono (S' := fun k => k = p ∨ k = q) fun k _ h => .inl h
        have hm : ({ m with data := d } : Msg) = m := by rw [hd0, ← HRO.out.2.1.1.1]
        rw [hm]
        exact ⟨hf3, rfl, HR2.out, s, HQ.out.2.fr HF2.out HQ.out.1.2, HRO.out.1.frT HRO.out.2.2 HQ.out.2 hf3, fun _ => ⟨rfl, rfl⟩, fun _ => ⟨rfl, rfl⟩, fun _ => ⟨rfl, rfl⟩⟩
      · have hg0 : decide ((0 : Int) < (n : Int)) = true := decide_eq_true (by omega)
        have hg1 : decide (0 < n) = true := decide_eq_true (by omega)
        have h0 : (0 : Int) < (n : Int) := by omega
        go_enter Tryd.func36, Tryd.ntmps36
        go_wp2_with fail
        refine (number_any w B p 4 l h (by decide)).mono ?_
        rintro e w1 he
        rw [H1.out] at he
        obtain ⟨hf, rfl, hrd⟩ := he
        dsimp only [Option.map_some] at hrd ⊢
        rw [HSG.out]
        have HF := Lib.hid hf
        have HRD := Lib.hid hrd
        clear hf hrd h
        go_wp2_with fail
        refine (raw_any w1 B p n r HRD.out (by have := HN.out; omega)).mono ?_
        rintro e w2 he
        rw [if_pos HNR.out.1] at he
        obtain ⟨A, c, rfl, hnc, hcc, hby, hrd2, hf2⟩ := he
        rw [HNR.out.2.1] at hby
        have HF2 := Lib.hid (HF.out.trans hf2 fun _ _ h => h)
        have HR2 := Lib.hid hrd2
        have HBY := Lib.hid (hby.up (B' := w2.heap.size) (by have := HQ.out.2.lt; have := HQ.out.1.1; have := HF2.out.size; omega))
        clear hnc hcc hby hrd2 hf2
        go_wp2_with fail
        refine (clone_any w2 A d n c HNR.out.2.2.symm (by have := HNR.out.1; have := HN.out.2; have := HRO.out.2.1.2; omega) HBY.out).mono ?_
        rintro e w3 ⟨A3, c3, rfl, ho3, hb3⟩
        rw [HNR.out.2.2]
        have hB3 := (HQ.out.2.fr HF2.out HQ.out.1.2).keep hb3
        have c13 := hB3.cell 13
        have z13 := hB3.frozen 13
        simp [mv] at c13
        have HB3 := Lib.hid (And.intro hB3 (And.intro ho3 hb3))
        clear hB3 ho3 hb3
        go_wp2_with fail
        go_end0
        have hset : Fr (fun k => k = q) w3 (w3.setCell ⟨q, 13, none⟩ (.slice A3 n c3)) := Fr.setCell (S := fun k => k = q) (w' := w3) (Fr.refl _ w3) (p := ⟨q, 13, none⟩) (fun _ => rfl) _
        have hf3 : Fr (fun k => k = p ∨ k = q) w w3 := (HF2.out.trans (Fr.quiet (S := fun _ => False) HB3.out.2.2) fun _ _ h => h.elim).mono (S' := fun k => k = p ∨ k = q) fun k _ h => .inl h
        have hf4 : Fr (fun k => k = p ∨ k = q) w (w3.setCell ⟨q, 13, none⟩ (.slice A3 n c3)) := hf3.trans hset fun k _ h => .inr h
        have hR := HRO.out.1.frT HRO.out.2.2 HQ.out.2 hf4
        have hle : B2 ≤ w2.heap.size := by have := HB2.out; have := HF2.out.size; omega
        refine ⟨hf4, rfl, (HR2.out.keep HB3.out.2.2).fr hset (fun k hk => by have := HQ.out.1.1; omega) (fun h => HQ.out.1.2 h.symm), { s with da := A3, dk := c3 }, ?_, ⟨hR.1, hR.2.1, ?_⟩, fun _ => ⟨rfl, rfl⟩, fun _ => ⟨rfl, rfl⟩, fun h => absurd rfl h⟩
        · have := HB3.out.1.set_ 13 (.slice A3 n c3)
          rw [← HNR.out.2.2] at this ⊢
          simpa [mv] using this
        · exact (HB3.out.2.1.down hle).fr hset (fun g hg e => HB3.out.1.ne_own HB3.out.2.1 (by decide) _ hg e)
    · have hcut : cut n r = none := by unfold cut; rw [if_neg hnr]
      rw [hcut]
      have HNR := Lib.hid hnr
      clear hcut hnr
      go_enter Tryd.func36, Tryd.ntmps36
      go_wp2_with fail
      refine (number_any w B p 4 l h (by decide)).mono ?_
      rintro e w1 he
      rw [H1.out] at he
      obtain ⟨hf, rfl, hrd⟩ := he
      dsimp only [Option.map_some] at hrd ⊢
      rw [HSG.out]
      have HF := Lib.hid hf
      have HRD := Lib.hid hrd
      clear hf hrd h
      go_wp2_with fail
      refine (raw_any w1 B p n r HRD.out (by have := HN.out; omega)).mono ?_
      rintro e w2 he
      rw [if_neg HNR.out] at he
      obtain ⟨rfl, rfl⟩ := he
      go_wp2_with fail
      exact ⟨rfl, HF.out.mono fun k _ h => .inl h, rfl, _, _, HQ.out.2.fr HF.out HQ.out.1.2⟩
end Go.Proofs.YtebdmfmadbikaaaDoor.WiW
