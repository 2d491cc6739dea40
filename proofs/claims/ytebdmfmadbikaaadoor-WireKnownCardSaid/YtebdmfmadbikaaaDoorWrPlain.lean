/- The law's plain: a message as the document has it. Printed by genwplain.py (raw numbers of the seat). -/
import Derived.Test.YtebdmfmadbikaaaDoorWrFew
import Derived.Test.YtebdmfmadbikaaaDoorAppK
namespace Go.Proofs.YtebdmfmadbikaaaDoor.WiW
open Go.RowKit Go.Shelf Mem Fds FdW Wi Rng
set_option linter.unusedVariables false
set_option linter.unusedSimpArgs false

/-- The document's message: its cells, k ids so far. -/
def pvk (m : Msg) (A : Option Addr) (k c : Nat) (na : Option Addr) (nc : Nat) : Array Value := #[.int .u8 (m.kind : Int), .int .i64 m.frm, .int .i64 m.to_, .int .i64 m.req, .string (str m.key), .int .i64 m.ver, .int .i64 m.inc, .int .i64 m.size, .int .i64 m.code, .int .i64 m.node, .bool m.back,
  .slice A k c, .slice na m.nodes.length nc, .string (str m.data)]
def pv (m : Msg) (A : Option Addr) (c : Nat) (na : Option Addr) (nc : Nat) : Array Value := pvk m A m.ids.length c na nc
/-- A document's message that is there, below B. -/
structure PIn (w : World) (B : Nat) (m : Msg) (A na : Option Addr) : Prop where
  ids : Cells w B A (m.ids.flatMap dc)
  nodes : Cells w B na (m.nodes.map iv)
  kind : m.kind < 256
  lk : m.key.length ≤ 100000000
  li : m.ids.length ≤ 100000000
  ln : m.nodes.length ≤ 100000000
  ld : m.data.length ≤ 100000000
  lik : ∀ x ∈ m.ids, x.1.length ≤ 100000000
theorem PIn.below {w w' : World} {B : Nat} {m : Msg} {A na : Option Addr} (h : PIn w B m A na) (hb : Below B w w') : PIn w' B m A na := ⟨h.ids.below hb, h.nodes.below hb, h.kind, h.lk, h.li, h.ln, h.ld, h.lik⟩
theorem PIn.up {w : World} {B B' : Nat} {m : Msg} {A na : Option Addr} (h : PIn w B m A na) (hB : B ≤ B') : PIn w B' m A na := ⟨h.ids.up hB, h.nodes.up hB, h.kind, h.lk, h.li, h.ln, h.ld, h.lik⟩
theorem PIn.keep {w w' : World} {m : Msg} {A na : Option Addr} (h : PIn w w.heap.size m A na) (hb : Below w.heap.size w w') : PIn w' w'.heap.size m A na := (h.below hb).up hb.size
theorem pinfo : (Tryd.prog.info? 33).map (·.size) = some 14 := by kernel_rfl
theorem didinfo : (Tryd.prog.info? 54).map (fun i => (i.zero, i.size, i.bytes)) = some (some (.agg #[.string (str []), .int .i64 0]), 2, 24) := by kernel_rfl
theorem pvk_one (m : Msg) (A : Option Addr) (k c : Nat) (na : Option Addr) (nc : Nat) : (pvk m A k c na nc).all (·.oneCell') = true := Array.all_eq_true_iff_forall_mem.2 (by intro v hv; simp [pvk] at hv; rcases hv with rfl | rfl | rfl | rfl | rfl | rfl | rfl | rfl | rfl | rfl | rfl | rfl | rfl | rfl <;> rfl)
theorem there_p {w : World} {g : Nat} {T : TypeId} {cs : Array Value} {m : Msg} {A : Option Addr} {k c : Nat} {na : Option Addr} {nc : Nat} (h : Blk w g T cs) (hs : cs.size = 14 := by rfl) : w.there g 0 (pvk m A k c na nc).size := fun j hj => by
  have hj : j < 14 := hj
  refine ⟨?_, ?_⟩
  · rw [Nat.zero_add, h.cell j, Array.getElem?_eq_getElem (by omega)]; rfl
  · rw [Nat.zero_add]; exact h.frozen j
theorem set14p {w : World} {g : Nat} {T : TypeId} (h : Blk w g T #[.int .u8 0, .int .i64 0, .int .i64 0, .int .i64 0, .string { data := #[] }, .int .i64 0, .int .i64 0, .int .i64 0, .int .i64 0, .int .i64 0, .bool false, .slice none 0 0, .slice none 0 0, .string { data := #[] }]) (m : Msg) (A : Option Addr) (k c : Nat) (na : Option Addr) (nc : Nat) : Blk (w.setCells g 0 (pvk m A k c na nc).toList) g T (pvk m A k c na nc) := by
  have h4 := blk_setCells (pvk m A k c na nc).toList 0 w _ h
  have e : setAll #[.int .u8 0, .int .i64 0, .int .i64 0, .int .i64 0, .string { data := #[] }, .int .i64 0, .int .i64 0, .int .i64 0, .int .i64 0, .int .i64 0, .bool false, .slice none 0 0, .slice none 0 0, .string { data := #[] }] 0 (pvk m A k c na nc).toList = pvk m A k c na nc := by simp [pvk, setAll]
  rw [e] at h4; exact h4
theorem dc_one (x : List UInt8 × Int) : ∀ u ∈ dc x, u.oneCell' = true := by
  intro u hu; simp [dc] at hu; rcases hu with rfl | rfl <;> rfl
theorem Blk.ne_ownK {w : World} {g : Nat} {T : TypeId} {cs : Array Value} (h : Blk w g T cs) {base' K n c' : Nat} {T' : TypeId} {A' : Option Addr} {ys : List Value} (ho : OwnK w base' T' K A' n c' ys) (hT : T ≠ T') : A' ≠ some ⟨g, 0, none⟩ := by
  intro e1
  subst e1
  have h' : w.heap[g]? = some (.cells cs T (0, 0)) := h
  rcases ho.2 with ⟨hv, _⟩ | ⟨g2, cap, cur, hv, _, hh, _⟩
  · injection hv with hv; cases hv
  · injection hv with hv _ _
    injection hv with hv; injection hv with hv
    subst hv
    rw [h'] at hh
    injection hh with hh; injection hh with _ hh
    exact hT hh
/-- What plain leaves. -/
def PlainR (w : World) (m : Msg) (s : Sl) (e : Ending) (w' : World) : Prop :=
  ∃ A c, e = .returned (.agg (pv m A c s.na s.nc)) ∧ PIn w' w'.heap.size m A s.na ∧ Below w.heap.size w w'
/-- The state within plain's loop. -/
def PlI (w : World) (q : Nat) (m : Msg) (s : Sl) (j : Nat) (A : Option Addr) (c : Nat) (W : World) : Prop :=
  Blk W q 27 (mv m s) ∧ Blk W (q + 1) 33 #[.int .u8 0, .int .i64 0, .int .i64 0, .int .i64 0, .string { data := #[] }, .int .i64 0, .int .i64 0, .int .i64 0, .int .i64 0, .int .i64 0, .bool false, .slice none 0 0, .slice none 0 0, .string { data := #[] }] ∧ Blk W (q + 2) 33 (pvk m A j c s.na s.nc) ∧ OwnK W q 54 2 A j c ((m.ids.take j).flatMap dc) ∧ Below q w W
set_option maxRecDepth 100000 in
set_option maxHeartbeats 8000000 in
theorem plain_any (w : World) (m : Msg) (s : Sl) (hI : MIn w w.heap.size m s) : Calls Tryd.prog 12 #[.agg (mv m s)] w (PlainR w m s) := by
  obtain ⟨i0, hi0, hz0, hz1, hz2⟩ := info_parts didinfo
  obtain ⟨q, hq⟩ : ∃ q, w.heap.size = q := ⟨_, rfl⟩
  have hcv := conv_str (w := (w.alloc (.cells #[.int .u8 (m.kind : Int), .int .i64 m.frm, .int .i64 m.to_, .int .i64 m.req, .string (str m.key), .int .i64 m.ver, .int .i64 m.inc, .int .i64 m.size, .int .i64 m.code, .int .i64 m.node, .bool m.back, .slice s.ia m.ids.length s.ic, .slice s.na m.nodes.length s.nc, .slice s.da m.data.length s.dk] 27)).alloc (.cells #[.int .u8 0, .int .i64 0, .int .i64 0, .int .i64 0, .string { data := #[] }, .int .i64 0, .int .i64 0, .int .i64 0, .int .i64 0, .int .i64 0, .bool false, .slice none 0 0, .slice none 0 0, .string { data := #[] }] 33)) (hI.data.below (nextA (nextA (Mem.start w) _) _)) m.data.length s.dk rfl
  have hmv : mv m s = #[.int .u8 (m.kind : Int), .int .i64 m.frm, .int .i64 m.to_, .int .i64 m.req, .string (str m.key), .int .i64 m.ver, .int .i64 m.inc, .int .i64 m.size, .int .i64 m.code, .int .i64 m.node, .bool m.back, .slice s.ia m.ids.length s.ic, .slice s.na m.nodes.length s.nc, .slice s.da m.data.length s.dk] := rfl
  obtain ⟨w3, hw3⟩ : ∃ x : World, ((w.alloc (.cells #[.int .u8 (m.kind : Int), .int .i64 m.frm, .int .i64 m.to_, .int .i64 m.req, .string (str m.key), .int .i64 m.ver, .int .i64 m.inc, .int .i64 m.size, .int .i64 m.code, .int .i64 m.node, .bool m.back, .slice s.ia m.ids.length s.ic, .slice s.na m.nodes.length s.nc, .slice s.da m.data.length s.dk] 27)).alloc (.cells #[.int .u8 0, .int .i64 0, .int .i64 0, .int .i64 0, .string { data := #[] }, .int .i64 0, .int .i64 0, .int .i64 0, .int .i64 0, .int .i64 0, .bool false, .slice none 0 0, .slice none 0 0, .string { data := #[] }] 33)).alloc (.cells (pvk m none 0 0 s.na s.nc) 33) = x := ⟨_, rfl⟩
  have HI3 := Lib.hid (show PlI w q m s 0 none 0 w3 from by
    rw [← hw3, ← hq]
    refine ⟨?_, ?_, ?_, OwnK.nil, nextA (nextA (nextA (Mem.start w) _) _) _⟩
    · exact ((Blk.new w 27 (mv m s)).keep (nextA (Mem.start _) _)).keep (nextA (Mem.start _) _)
    · have := (Blk.new (w.alloc (.cells #[.int .u8 (m.kind : Int), .int .i64 m.frm, .int .i64 m.to_, .int .i64 m.req, .string (str m.key), .int .i64 m.ver, .int .i64 m.inc, .int .i64 m.size, .int .i64 m.code, .int .i64 m.node, .bool m.back, .slice s.ia m.ids.length s.ic, .slice s.na m.nodes.length s.nc, .slice s.da m.data.length s.dk] 27)) 33 #[.int .u8 0, .int .i64 0, .int .i64 0, .int .i64 0, .string { data := #[] }, .int .i64 0, .int .i64 0, .int .i64 0, .int .i64 0, .int .i64 0, .bool false, .slice none 0 0, .slice none 0 0, .string { data := #[] }]).keep (nextA (Mem.start _) (.cells (pvk m none 0 0 s.na s.nc) 33))
      rw [World.size_alloc] at this; exact this
    · have := Blk.new ((w.alloc (.cells #[.int .u8 (m.kind : Int), .int .i64 m.frm, .int .i64 m.to_, .int .i64 m.req, .string (str m.key), .int .i64 m.ver, .int .i64 m.inc, .int .i64 m.size, .int .i64 m.code, .int .i64 m.node, .bool m.back, .slice s.ia m.ids.length s.ic, .slice s.na m.nodes.length s.nc, .slice s.da m.data.length s.dk] 27)).alloc (.cells #[.int .u8 0, .int .i64 0, .int .i64 0, .int .i64 0, .string { data := #[] }, .int .i64 0, .int .i64 0, .int .i64 0, .int .i64 0, .int .i64 0, .bool false, .slice none 0 0, .slice none 0 0, .string { data := #[] }] 33)) 33 (pvk m none 0 0 s.na s.nc)
      rw [World.size_alloc, World.size_alloc] at this; exact this)
  have HIN := Lib.hid (show MIn w q m s from by rw [← hq]; exact hI)
  have HI0 := Lib.hid (And.intro hi0 (And.intro hz0 (And.intro hz1 hz2)))
  have HQ := Lib.hid hq
  clear hI hi0 hz0 hz1 hz2
  go_enter Tryd.func12, Tryd.ntmps12
  go_wp2_with fail
  clear hcv hmv
  simp only [pvk] at hw3
  rw [hw3]
  have HLN := Lib.hid HIN.out.li
  go_loopw [4] (fun i wr => ∃ (j : Nat) (A : Option Addr) (c : Nat), i = .int .i64 (j : Int) ∧ j ≤ m.ids.length ∧ PlI w q m s j A c wr) (fun i _ => m.ids.length - (intOf i).toNat)
  case atStart => exact ⟨0, none, 0, rfl, Nat.zero_le _, HI3.out⟩
  case round =>
    obtain ⟨j, A, c, rfl, hj, hP⟩ := hrel
    have hlen : ((m.ids.length : Nat) : Int) ≤ 100000000 := by have := HLN.out; omega
    have c11 := hP.1.cell 11
    simp [mv] at c11
    have HP := Lib.hid hP
    have HWR := Lib.hid (show q ≤ wr.heap.size from Nat.le_of_lt hP.1.lt)
    by_cases hjl : j < m.ids.length
    · have hids := (HIN.out.below hP.2.2.2.2).ids
      obtain ⟨b1, o1, e1, hb1, k1, k2⟩ := ids_at hids hjl
      rw [e1] at c11
      have h1 : (j : Int) < ((m.ids.length : Nat) : Int) := by omega
      have h0 : (0 : Int) ≤ (j : Int) := by omega
      obtain ⟨⟨ky, vr⟩, hx⟩ : ∃ x, m.ids[j] = x := ⟨_, rfl⟩
      rw [hx] at k1 k2
      dsimp only at k1 k2
      have c22 := hP.2.2.1.cell 11
      simp [pvk] at c22
      have HT := Lib.hid (show wr.cell? ⟨q + 2, 11, none⟩ = some (.slice A j c) ∧ wr.cell? ⟨q, 11, none⟩ = some (.slice (some ⟨b1, o1, none⟩) m.ids.length s.ic) ∧ wr.cell? ⟨b1, o1 + j * 2, none⟩ = some (.string (str ky)) ∧ wr.cell? ⟨b1, o1 + j * 2 + 1, none⟩ = some (.int .i64 vr) from ⟨c22, c11, k1, k2⟩)
      have HCW := Lib.hid (show ∀ V, Below wr.heap.size wr V → V.cell? ⟨q + 2, 11, none⟩ = some (.slice A j c) ∧ V.cell? ⟨q, 11, none⟩ = some (.slice (some ⟨b1, o1, none⟩) m.ids.length s.ic) ∧ V.cell? ⟨b1, o1 + j * 2, none⟩ = some (.string (str ky)) ∧ V.cell? ⟨b1, o1 + j * 2 + 1, none⟩ = some (.int .i64 vr) from fun V hb =>
        ⟨(hb.cell (World.block_lt_of_cell? _ _ HT.out.1)).trans HT.out.1, (hb.cell (World.block_lt_of_cell? _ _ HT.out.2.1)).trans HT.out.2.1, (hb.cell (World.block_lt_of_cell? _ _ HT.out.2.2.1)).trans HT.out.2.2.1, (hb.cell (World.block_lt_of_cell? _ _ HT.out.2.2.2)).trans HT.out.2.2.2⟩)
      have HSN := Lib.hid (show (m.ids.take j).flatMap dc ++ dc (ky, vr) = (m.ids.take (j + 1)).flatMap dc by rw [List.take_succ_eq_append_getElem hjl, List.flatMap_append, hx]; simp)
      have HJ := Lib.hid hjl
      have HB1 := Lib.hid hb1
      clear hids e1 hb1 hx c22 k1 k2 hP hw3 hq
      go_wp2_with fail
      refine wp_region_noPanic ?_
      refine wp_heldG (fun V => V.cell? ⟨q + 2, 11, none⟩ = some (.slice A j c) ∧ V.cell? ⟨q, 11, none⟩ = some (.slice (some ⟨b1, o1, none⟩) m.ids.length s.ic) ∧ V.cell? ⟨b1, o1 + j * 2, none⟩ = some (.string (str ky)) ∧ V.cell? ⟨b1, o1 + j * 2 + 1, none⟩ = some (.int .i64 vr)) [18] (by kernel_rfl) ?hs0 ?rg0
      case hs0 =>
        exact HCW.out _ (nextN (Mem.start wr) 1)
      case rg0 =>
      intro hHeld
      refine wpAnyG_pure (i := 0) (oi := { dst := some 40, op := Op.fieldAddr 33 (Operand.tmp 3) 11, type := 0, pos := _, after := #[], guard := none }) (v := ?_) rfl (by kernel_rfl) (by kernel_rfl) (by kernel_rfl) (by kernel_rfl) (fun _ _ _ h => h) (Or.inl ⟨by rfl, ?_⟩) (fun _ => by assumption) ?_
      rotate_left
      · intro w hSw
        try dsimp only at hSw
        go_simp
        try with_reducible rfl
      try simp only [Act.put, List.setIfInBounds_toArray, List.set_cons_zero, List.set_cons_succ]
      refine wpAnyG_take (i := 1) (oi := { dst := some 41, op := Op.load 31 (Operand.tmp 40), type := 31, pos := _, after := #[{ on := 0, ground := Ground.data }], guard := none }) (v := ?_) rfl (by kernel_rfl) (by kernel_rfl) (by kernel_rfl) (by kernel_rfl) (fun _ _ _ h => h) (Or.inl ⟨by rfl, ?_⟩) (by assumption) ?_
      rotate_left
      · intro w hSw
        try dsimp only at hSw
        go_simp
        try with_reducible rfl
      try simp only [Act.put, List.setIfInBounds_toArray, List.set_cons_zero, List.set_cons_succ]
      refine wpAnyG_pure (i := 2) (oi := { dst := some 42, op := Op.fieldAddr 27 (Operand.tmp 1) 11, type := 0, pos := _, after := #[], guard := none }) (v := ?_) rfl (by kernel_rfl) (by kernel_rfl) (by kernel_rfl) (by kernel_rfl) (fun _ _ _ h => h) (Or.inl ⟨by rfl, ?_⟩) (fun _ => by assumption) ?_
      rotate_left
      · intro w hSw
        try dsimp only at hSw
        go_simp
        try with_reducible rfl
      try simp only [Act.put, List.setIfInBounds_toArray, List.set_cons_zero, List.set_cons_succ]
      refine wpAnyG_take (i := 3) (oi := { dst := some 43, op := Op.load 23 (Operand.tmp 42), type := 23, pos := _, after := #[{ on := 2, ground := Ground.data }], guard := none }) (v := ?_) rfl (by kernel_rfl) (by kernel_rfl) (by kernel_rfl) (by kernel_rfl) (fun _ _ _ h => h) (Or.inl ⟨by rfl, ?_⟩) (by assumption) ?_
      rotate_left
      · intro w hSw
        try dsimp only at hSw
        go_simp
        try with_reducible rfl
      try simp only [Act.put, List.setIfInBounds_toArray, List.set_cons_zero, List.set_cons_succ]
      refine wpAnyG_pure (i := 4) (oi := { dst := some 44, op := Op.move (Operand.tmp 4), type := 3, pos := _, after := #[], guard := none }) (v := ?_) rfl (by kernel_rfl) (by kernel_rfl) (by kernel_rfl) (by kernel_rfl) (fun _ _ _ h => h) (Or.inl ⟨by rfl, ?_⟩) (fun _ => by assumption) ?_
      rotate_left
      · intro w hSw
        try dsimp only at hSw
        go_simp
        try with_reducible rfl
      try simp only [Act.put, List.setIfInBounds_toArray, List.set_cons_zero, List.set_cons_succ]
      refine wpAnyG_pure (i := 5) (oi := { dst := some 45, op := Op.indexAddr 23 (Operand.tmp 43) (Operand.tmp 44), type := 0, pos := _, after := #[{ on := 3, ground := Ground.data }, { on := 4, ground := Ground.data }], guard := none }) (v := ?_) rfl (by kernel_rfl) (by kernel_rfl) (by kernel_rfl) (by kernel_rfl) (fun _ _ _ h => h) (Or.inl ⟨by rfl, ?_⟩) (fun _ => by assumption) ?_
      rotate_left
      · intro w hSw
        try dsimp only at hSw
        go_simp
        try with_reducible rfl
      try simp only [Act.put, List.setIfInBounds_toArray, List.set_cons_zero, List.set_cons_succ]
      refine wpAnyG_pure (i := 6) (oi := { dst := some 46, op := Op.fieldAddr 50 (Operand.tmp 45) 0, type := 0, pos := _, after := #[{ on := 5, ground := Ground.data }], guard := none }) (v := ?_) rfl (by kernel_rfl) (by kernel_rfl) (by kernel_rfl) (by kernel_rfl) (fun _ _ _ h => h) (Or.inl ⟨by rfl, ?_⟩) (fun _ => by assumption) ?_
      rotate_left
      · intro w hSw
        try dsimp only at hSw
        go_simp
        try with_reducible rfl
      try simp only [Act.put, List.setIfInBounds_toArray, List.set_cons_zero, List.set_cons_succ]
      refine wpAnyG_take (i := 7) (oi := { dst := some 47, op := Op.load 9 (Operand.tmp 46), type := 9, pos := _, after := #[{ on := 6, ground := Ground.data }], guard := none }) (v := ?_) rfl (by kernel_rfl) (by kernel_rfl) (by kernel_rfl) (by kernel_rfl) (fun _ _ _ h => h) (Or.inl ⟨by rfl, ?_⟩) (by assumption) ?_
      rotate_left
      · intro w hSw
        try dsimp only at hSw
        go_simp
        try with_reducible rfl
      try simp only [Act.put, List.setIfInBounds_toArray, List.set_cons_zero, List.set_cons_succ]
      refine wpAnyG_pure (i := 8) (oi := { dst := some 48, op := Op.fieldAddr 27 (Operand.tmp 1) 11, type := 0, pos := _, after := #[], guard := none }) (v := ?_) rfl (by kernel_rfl) (by kernel_rfl) (by kernel_rfl) (by kernel_rfl) (fun _ _ _ h => h) (Or.inl ⟨by rfl, ?_⟩) (fun _ => by assumption) ?_
      rotate_left
      · intro w hSw
        try dsimp only at hSw
        go_simp
        try with_reducible rfl
      try simp only [Act.put, List.setIfInBounds_toArray, List.set_cons_zero, List.set_cons_succ]
      refine wpAnyG_take (i := 9) (oi := { dst := some 49, op := Op.load 23 (Operand.tmp 48), type := 23, pos := _, after := #[{ on := 8, ground := Ground.data }], guard := none }) (v := ?_) rfl (by kernel_rfl) (by kernel_rfl) (by kernel_rfl) (by kernel_rfl) (fun _ _ _ h => h) (Or.inl ⟨by rfl, ?_⟩) (by assumption) ?_
      rotate_left
      · intro w hSw
        try dsimp only at hSw
        go_simp
        try with_reducible rfl
      try simp only [Act.put, List.setIfInBounds_toArray, List.set_cons_zero, List.set_cons_succ]
      refine wpAnyG_pure (i := 10) (oi := { dst := some 50, op := Op.move (Operand.tmp 4), type := 3, pos := _, after := #[], guard := none }) (v := ?_) rfl (by kernel_rfl) (by kernel_rfl) (by kernel_rfl) (by kernel_rfl) (fun _ _ _ h => h) (Or.inl ⟨by rfl, ?_⟩) (fun _ => by assumption) ?_
      rotate_left
      · intro w hSw
        try dsimp only at hSw
        go_simp
        try with_reducible rfl
      try simp only [Act.put, List.setIfInBounds_toArray, List.set_cons_zero, List.set_cons_succ]
      refine wpAnyG_pure (i := 11) (oi := { dst := some 51, op := Op.indexAddr 23 (Operand.tmp 49) (Operand.tmp 50), type := 0, pos := _, after := #[{ on := 9, ground := Ground.data }, { on := 10, ground := Ground.data }], guard := none }) (v := ?_) rfl (by kernel_rfl) (by kernel_rfl) (by kernel_rfl) (by kernel_rfl) (fun _ _ _ h => h) (Or.inl ⟨by rfl, ?_⟩) (fun _ => by assumption) ?_
      rotate_left
      · intro w hSw
        try dsimp only at hSw
        go_simp
        try with_reducible rfl
      try simp only [Act.put, List.setIfInBounds_toArray, List.set_cons_zero, List.set_cons_succ]
      refine wpAnyG_pure (i := 12) (oi := { dst := some 52, op := Op.fieldAddr 50 (Operand.tmp 51) 1, type := 0, pos := _, after := #[{ on := 11, ground := Ground.data }], guard := none }) (v := ?_) rfl (by kernel_rfl) (by kernel_rfl) (by kernel_rfl) (by kernel_rfl) (fun _ _ _ h => h) (Or.inl ⟨by rfl, ?_⟩) (fun _ => by assumption) ?_
      rotate_left
      · intro w hSw
        try dsimp only at hSw
        go_simp
        try with_reducible rfl
      try simp only [Act.put, List.setIfInBounds_toArray, List.set_cons_zero, List.set_cons_succ]
      refine wpAnyG_take (i := 13) (oi := { dst := some 53, op := Op.load 2 (Operand.tmp 52), type := 2, pos := _, after := #[{ on := 12, ground := Ground.data }], guard := none }) (v := ?_) rfl (by kernel_rfl) (by kernel_rfl) (by kernel_rfl) (by kernel_rfl) (fun _ _ _ h => h) (Or.inl ⟨by rfl, ?_⟩) (by assumption) ?_
      rotate_left
      · intro w hSw
        try dsimp only at hSw
        go_simp
        try with_reducible rfl
      try simp only [Act.put, List.setIfInBounds_toArray, List.set_cons_zero, List.set_cons_succ]
      refine wpAnyG_pure (i := 14) (oi := { dst := some 54, op := Op.build 54 #[(0, Operand.tmp 47), (1, Operand.tmp 53)], type := 54, pos := _, after := #[{ on := 7, ground := Ground.data }, { on := 13, ground := Ground.data }], guard := none }) (v := ?_) rfl (by kernel_rfl) (by kernel_rfl) (by kernel_rfl) (by kernel_rfl) (fun _ _ _ h => h) (Or.inl ⟨by rfl, ?_⟩) (fun _ => by assumption) ?_
      rotate_left
      · intro w hSw
        try dsimp only at hSw
        go_simp
        try with_reducible rfl
      try simp only [Act.put, List.setIfInBounds_toArray, List.set_cons_zero, List.set_cons_succ]
      refine wpAnyG_one (i := 15) (o := { dst := some 55, op := Op.buildSlice 31 1 #[(0, Operand.tmp 54)], type := 31, pos := _, after := #[{ on := 14, ground := Ground.data }], guard := none }) (by kernel_rfl) rfl (fun K hK => ?_)
      go_simp
      try dsimp only
      refine hK.out _ _ ?_ (fun hHeld => ?_)
      · intro _
        try dsimp only
        exact HCW.out _ (nextA (nextN (Mem.start wr) 1) _)
      clear hK K
      try simp only [Act.put, List.setIfInBounds_toArray, List.set_cons_zero, List.set_cons_succ]
      have hHeld := hHeld (by kernel_rfl)
      refine wpAnyG_one (i := 16) (o := { dst := some 56, op := Op.call { callee := Callee.builtin Builtin.append, args := #[Operand.tmp 41, Operand.tmp 55], argTypes := #[31, 31] }, type := 31, pos := _, after := #[{ on := 1, ground := Ground.data }, { on := 15, ground := Ground.data }], guard := none }) (by kernel_rfl) rfl (fun K hK => ?_)
      refine step_appK (wr.drew.alloc (.cells #[.string (str ky), .int .i64 vr] 54)) rfl (.tmp 41) (.tmp 55) 31 (by rfl) q 54 i0 _ 2 24 Tryd.underlying31 HI0.out.1 HI0.out.2.1 HI0.out.2.2.1 HI0.out.2.2.2 (by rfl) (by decide) A c j ((m.ids.take j).flatMap dc) (by rfl) (HP.out.2.2.2.1.keep (nextA (nextN (Mem.start wr) 1) _)) (wr.heap.size + 1) (some ⟨wr.heap.size, 0, none⟩) 1 1 (dc (ky, vr)) (by rfl) ?cl (by rfl) (dc_one _) (by have := HLN.out; have := HJ.out; unfold maxLen; omega) (by have := HLN.out; have := HJ.out; omega) (by have := HWR.out; simp; omega) (j + 1) rfl ?_
      case cl => exact fun _ => ⟨wr.heap.size, 0, rfl, Nat.lt_succ_self _, fun qq v hv => by rw [Nat.zero_add]; exact (new_cell wr.drew _ _ _ qq).trans (by rw [← hv]; simp [dc])⟩
      intro A3 c3 w4 ho3 hb3 hg3 hA3
      rw [HSN.out] at ho3
      have hf4 : Fr (fun k => A.map (·.block) = some k) wr w4 := (Fr.quiet (S := fun k => A.map (·.block) = some k) (nextA (nextN (Mem.start wr) 1) _)).trans (Fr.grown (S := fun k => A.map (·.block) = some k) hg3 fun k h => h) fun _ _ h => h
      have hne : ∀ g T cs, Blk wr g T cs → T ≠ 54 → ¬ A.map (·.block) = some g := fun g T cs hB hT h => by
        rcases HP.out.2.2.2.1.form with ⟨e, _⟩ | ⟨g2, e, _⟩
        · rw [e] at h; cases h
        · rw [e] at h; injection h with h; dsimp only at h; subst h; exact Blk.ne_ownK hB HP.out.2.2.2.1 hT e
      have hlo : ∀ k, k < q → ¬ A.map (·.block) = some k := fun k hk h => by
        rcases HP.out.2.2.2.1.form with ⟨e, _⟩ | ⟨g2, e, hg2, _⟩
        · rw [e] at h; cases h
        · rw [e] at h; injection h with h; dsimp only at h; omega
      have H4 := Lib.hid (And.intro ho3 (And.intro hf4 (And.intro hne hlo)))
      clear ho3 hb3 hg3 hA3 hf4 hne hlo
      try dsimp only
      refine hK.out _ _ ?_ (fun hHeld => ?_)
      · intro _
        try dsimp only
        exact ⟨(World.cell?_of_block (H4.out.2.1.block (q + 2) HP.out.2.2.1.lt (H4.out.2.2.1 _ _ _ HP.out.2.2.1 (by decide)))).trans HT.out.1, (World.cell?_of_block (H4.out.2.1.block q HP.out.1.lt (H4.out.2.2.1 _ _ _ HP.out.1 (by decide)))).trans HT.out.2.1, (World.cell?_of_block (H4.out.2.1.block b1 (World.block_lt_of_cell? _ _ HT.out.2.2.1) (H4.out.2.2.2 b1 HB1.out))).trans HT.out.2.2.1, (World.cell?_of_block (H4.out.2.1.block b1 (World.block_lt_of_cell? _ _ HT.out.2.2.1) (H4.out.2.2.2 b1 HB1.out))).trans HT.out.2.2.2⟩
      clear hK K
      try simp only [Act.put, List.setIfInBounds_toArray, List.set_cons_zero, List.set_cons_succ]
      have hHeld := hHeld (by kernel_rfl)
      refine wpAnyG_pure (i := 17) (oi := { dst := some 57, op := Op.fieldAddr 33 (Operand.tmp 3) 11, type := 0, pos := _, after := #[{ on := 0, ground := Ground.phase }, { on := 1, ground := Ground.phase }, { on := 2, ground := Ground.phase }, { on := 3, ground := Ground.phase }, { on := 4, ground := Ground.phase }, { on := 5, ground := Ground.phase }, { on := 6, ground := Ground.phase }, { on := 7, ground := Ground.phase }, { on := 8, ground := Ground.phase }, { on := 9, ground := Ground.phase }, { on := 10, ground := Ground.phase }, { on := 11, ground := Ground.phase }, { on := 12, ground := Ground.phase }, { on := 13, ground := Ground.phase }, { on := 14, ground := Ground.phase }, { on := 15, ground := Ground.phase }, { on := 16, ground := Ground.phase }], guard := none }) (v := ?_) rfl (by kernel_rfl) (by kernel_rfl) (by kernel_rfl) (by kernel_rfl) (fun _ _ _ h => h) (Or.inl ⟨by rfl, ?_⟩) (fun _ => by assumption) ?_
      rotate_left
      · intro w hSw
        try dsimp only at hSw
        go_simp
        try with_reducible rfl
      try simp only [Act.put, List.setIfInBounds_toArray, List.set_cons_zero, List.set_cons_succ]
      refine wpAnyG_one (i := 18) (o := { dst := none, op := Op.store 31 (Operand.tmp 57) (Operand.tmp 56), type := 0, pos := _, after := #[{ on := 17, ground := Ground.data }, { on := 16, ground := Ground.data }, { on := 16, ground := Ground.chain }, { on := 0, ground := Ground.phase }, { on := 1, ground := Ground.phase }, { on := 2, ground := Ground.phase }, { on := 3, ground := Ground.phase }, { on := 4, ground := Ground.phase }, { on := 5, ground := Ground.phase }, { on := 6, ground := Ground.phase }, { on := 7, ground := Ground.phase }, { on := 8, ground := Ground.phase }, { on := 9, ground := Ground.phase }, { on := 10, ground := Ground.phase }, { on := 11, ground := Ground.phase }, { on := 12, ground := Ground.phase }, { on := 13, ground := Ground.phase }, { on := 14, ground := Ground.phase }, { on := 15, ground := Ground.phase }, { on := 16, ground := Ground.phase }], guard := none }) (by kernel_rfl) rfl (fun K hK => ?_)
      have HB5 := Lib.hid (HP.out.2.2.1.fr H4.out.2.1 (H4.out.2.2.1 _ _ _ HP.out.2.2.1 (by decide)))
      have z0 := HB5.out.frozen 11
      have cc0 := HB5.out.cell 11
      simp [pvk] at cc0
      rw [show q + 2 = q + 1 + 1 from rfl] at z0 cc0
      go_simp
      try dsimp only
      clear z0 cc0
      refine hK.out _ _ ?_ (fun hHeld => ?_)
      · exact fun h => (st_no (by kernel_rfl) h).elim
      clear hK K
      try simp only [Act.put, List.setIfInBounds_toArray, List.set_cons_zero, List.set_cons_succ]
      clear hHeld
      refine wpAnyG_done (by kernel_rfl) ?_ _
      refine NoPanic.normal ?_
      go_wp2_with fail
      go_roundw
      case rel =>
        have hset : Fr (fun k => k = q + 2) w4 (w4.setCell ⟨q + 1 + 1, 11, none⟩ (.slice A3 (j + 1) c3)) := Fr.setCell (S := fun k => k = q + 2) (w' := w4) (Fr.refl _ w4) (p := ⟨q + 1 + 1, 11, none⟩) (fun _ => rfl) _
        have e4 : q ≤ w4.heap.size := Nat.le_trans HWR.out H4.out.2.1.size
        refine ⟨j + 1, A3, c3, rfl, HJ.out, (HP.out.1.fr H4.out.2.1 (H4.out.2.2.1 _ _ _ HP.out.1 (by decide))).fr hset (by omega), (HP.out.2.1.fr H4.out.2.1 (H4.out.2.2.1 _ _ _ HP.out.2.1 (by decide))).fr hset (by omega), ?_, ?_, ?_⟩
        · exact HB5.out.set_ 11 (.slice A3 (j + 1) c3)
        · exact H4.out.1.fr hset (fun g hg e => Blk.ne_ownK HB5.out H4.out.1 (by decide) (by rw [hg, e]))
        · exact (HP.out.2.2.2.2.trans (H4.out.2.1.below HWR.out fun k hk => by
            by_cases h : k < q
            · exact absurd hk (H4.out.2.2.2 k h)
            · omega)).trans (hset.below e4 fun k hk => by omega)
      case measure => simp [intOf]; have := HJ.out; omega
    · obtain rfl : j = m.ids.length := by omega
      unfold PlI at hP
      rw [List.take_length] at hP
      have HP2 := Lib.hid hP
      have h1 : ¬ ((m.ids.length : Nat) : Int) < ((m.ids.length : Nat) : Int) := by omega
      clear hP hw3 hq
      go_wp2_with ((with_reducible show wpList _ _ _ ((⟨some 58, _, _, _, _, _⟩ : Oper) :: _) _ _); refine wpList_load_mid rfl 33 (.tmp 3) rfl (q + 1 + 1) 0 rfl (pvk m A m.ids.length c s.na s.nc).toList _ (range_of HP2.out.2.2.1) Tryd.underlying33 rfl pinfo ?_; refine wpList_store_mid rfl 33 (.tmp 2) (.tmp 58) rfl (q + 1) 0 (pvk m A m.ids.length c s.na s.nc) rfl rfl (there_p HP2.out.2.1) pinfo (pvk_one _ _ _ _ _ _) ?_)
      have hF : Fr (fun k => k = q + 1) wr (wr.setCells (q + 1) 0 (pvk m A m.ids.length c s.na s.nc).toList) := fr_setCells (S := fun k => k = q + 1) rfl _ _ _ (Fr.refl _ wr)
      have hB := set14p HP2.out.2.1 m A m.ids.length c s.na s.nc
      obtain ⟨w5, hw5⟩ : ∃ x, wr.setCells (q + 1) 0 (pvk m A m.ids.length c s.na s.nc).toList = x := ⟨_, rfl⟩
      rw [hw5] at hF hB ⊢
      have HB := Lib.hid (And.intro hB hF)
      clear hF hB hw5 c11 h1
      refine bodyPost_ret (v := .agg (pvk m A m.ids.length c s.na s.nc)) ?_ rfl ?_
      · have e0 := HB.out.1.cell 0
        have e1 := HB.out.1.cell 1
        have e2 := HB.out.1.cell 2
        have e3 := HB.out.1.cell 3
        have e4 := HB.out.1.cell 4
        have e5 := HB.out.1.cell 5
        have e6 := HB.out.1.cell 6
        have e7 := HB.out.1.cell 7
        have e8 := HB.out.1.cell 8
        have e9 := HB.out.1.cell 9
        have e10 := HB.out.1.cell 10
        have e11 := HB.out.1.cell 11
        have e12 := HB.out.1.cell 12
        have e13 := HB.out.1.cell 13
        simp [pvk] at e0 e1 e2 e3 e4 e5 e6 e7 e8 e9 e10 e11 e12 e13
        simp [results, Tryd.results12, go_sem, e0, e1, e2, e3, e4, e5, e6, e7, e8, e9, e10, e11, e12, e13]
        rfl
      · have hb5 : Below q wr w5 := HB.out.2.below HWR.out fun k hk => by omega
        have hbq : Below q w w5 := HP2.out.2.2.2.2.trans hb5
        refine ⟨A, c, rfl, ⟨?_, (HIN.out.below hbq).nodes.up (Nat.le_trans HWR.out HB.out.2.size), HIN.out.kind, HIN.out.lk, HIN.out.li, HIN.out.ln, HIN.out.ld, HIN.out.lik⟩, by rw [HQ.out]; exact hbq⟩
        have ho := HP2.out.2.2.2.1.fr HB.out.2 (fun g hg e => Blk.ne_ownK HP2.out.2.1 HP2.out.2.2.2.1 (by decide) (by rw [hg, e]))
        exact ho.cells
end Go.Proofs.YtebdmfmadbikaaaDoor.WiW
