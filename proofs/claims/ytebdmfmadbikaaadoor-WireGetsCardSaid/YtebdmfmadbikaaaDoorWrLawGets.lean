/- The law WireGets, walked. Printed by genwgets.py (raw numbers of the seat). -/
import Derived.Test.YtebdmfmadbikaaaDoorWrDG
import Derived.Test.YtebdmfmadbikaaaDoorWrLawBack
namespace Go.Proofs.YtebdmfmadbikaaaDoor.WiW
open Go.RowKit Go.Shelf Mem Fds FdW Wi Rng
set_option linter.unusedVariables false
set_option linter.unusedSimpArgs false

theorem rget_yes (w : World) (A : Option Addr) (b : List UInt8) (n c : Nat) (hn : n = b.length) (hnc : n ≤ c) (hcc : c ≤ 9223372036854775807) (hA : Bytes w w.heap.size A b) (hbl : b.length ≤ 1000000) (m : Msg) (hg : Wi.get b = some m) :
    Calls Tryd.prog 16 #[.slice A n c] w fun e w' => ∃ A1 c1 na nc, e = .returned (.tuple #[.agg (pv m A1 c1 na nc), .bool true]) ∧ PIn w' w'.heap.size m A1 na ∧ Below w.heap.size w w' := by
  refine (rget_any w A b n c hn hnc hcc hA hbl).mono fun e w' h => ?_
  obtain ⟨hb, h⟩ := h
  rw [hg] at h
  obtain ⟨A1, c1, na, nc, h1, h2⟩ := h
  exact ⟨A1, c1, na, nc, h1, h2, hb⟩
theorem rget_no (w : World) (A : Option Addr) (b : List UInt8) (n c : Nat) (hn : n = b.length) (hnc : n ≤ c) (hcc : c ≤ 9223372036854775807) (hA : Bytes w w.heap.size A b) (hbl : b.length ≤ 1000000) (hg : Wi.get b = none) :
    Calls Tryd.prog 16 #[.slice A n c] w fun e w' => e = .returned (.tuple #[.agg (pv mz none 0 none 0), .bool false]) ∧ Below w.heap.size w w' := by
  refine (rget_any w A b n c hn hnc hcc hA hbl).mono fun e w' h => ?_
  obtain ⟨hb, h⟩ := h
  rw [hg] at h
  exact ⟨h, hb⟩
theorem brow_fr {S : Nat → Prop} {w w' : World} {T : TypeId} {g c : Nat} {xs : List Value} (h : BRow w T g c xs) (hf : Fr S w w') (hg : ¬ S g) : BRow w' T g c xs := by
  obtain ⟨cur, fz, h1, r⟩ := h
  exact ⟨cur, fz, (hf.block g (Array.getElem?_eq_some_iff.1 h1).1 hg).trans h1, r⟩
theorem mz_pin (w : World) : PIn w w.heap.size mz none none := ⟨fun h => by simp [mz, msg0] at h, fun h => by simp [mz, msg0] at h, by decide, by decide, by decide, by decide, by decide, fun x hx => by cases hx⟩
theorem mz_min (w : World) : MIn w w.heap.size mz s0 := ⟨fun h => by simp [mz, msg0] at h, fun h => by simp [mz, msg0] at h, fun h => by simp [mz, msg0] at h, by decide, by decide, by decide, by decide, by decide, fun x hx => by cases hx⟩
/-- The law's boxes, and what came before. -/
def Gx (w : World) (g ck bx byx : Nat) (b : List UInt8) (B1 : Nat) (m : Msg) (s : Sl) (A1 : Option Addr) (c1 : Nat) (na : Option Addr) (nc : Nat) (V : World) : Prop :=
  Blk V bx 27 (mv m s) ∧ Blk V byx 33 (pv m A1 c1 na nc) ∧ Below w.heap.size w V ∧ BRow V 5 g ck (b.map u8v) ∧ RowsO V B1 m s ∧ PIn V V.heap.size m A1 na ∧ MIn V V.heap.size m s
theorem Gx.keep {w V V' : World} {g ck bx byx : Nat} {b : List UInt8} {B1 : Nat} {m : Msg} {s : Sl} {A1 : Option Addr} {c1 : Nat} {na : Option Addr} {nc : Nat} (h : Gx w g ck bx byx b B1 m s A1 c1 na nc V) (hb : Below V.heap.size V V') : Gx w g ck bx byx b B1 m s A1 c1 na nc V' :=
  ⟨h.1.keep hb, h.2.1.keep hb, next h.2.2.1 hb, h.2.2.2.1.keep hb, h.2.2.2.2.1.keep hb, h.2.2.2.2.2.1.keep hb, h.2.2.2.2.2.2.keep hb⟩
set_option maxRecDepth 100000 in
set_option maxHeartbeats 16000000 in
theorem gets_no (w : World) (hT : HasT w) (A : Option Addr) (b : List UInt8) (c : Nat) (hle : b.length ≤ c) (hmx : c ≤ maxLen) (hb : Bytes w w.heap.size A b) (hl : b.length ≤ 5000) (hg : Wi.get b = none) :
    Calls Tryd.prog 4 #[.slice A b.length c] w fun e w' => e = .returned (.bool true) ∧ Below w.heap.size w w' := by
  have HI := Lib.hid (And.intro hT hb)
  obtain ⟨L, hL⟩ : ∃ L, b.length = L := ⟨_, rfl⟩
  have es := run_str (P := Tryd.prog) w 25 5 Tryd.underlying25 Tryd.underlying5 hb c 9 Tryd.underlying9
  have HL := Lib.hid (show b.length = L ∧ L ≤ 5000 ∧ L ≤ c ∧ c ≤ 9223372036854775807 from ⟨hL, by omega, by omega, maxle hmx⟩)
  have HG := Lib.hid hg
  rw [hL] at es ⊢
  have dl : decide ((5000 : Int) < ((L : Nat) : Int)) = false := decide_eq_false (by omega)
  clear hT hb hle hmx hl hg hL
  go_enter Tryd.func4, Tryd.ntmps4
  go_wp2_with ((with_reducible show wpList _ _ _ ((⟨some 15, _, _, _, _, _⟩ : Oper) :: _) _ _); refine wpList_bytesOfB w (by rfl) 9 25 (.tmp 14) rfl 5 Tryd.underlying9 Tryd.underlying25 Tryd.underlying5 b (by rw [HL.out.1]; have := HL.out.2.1; unfold maxLen; omega) rfl ?_; intro ck w1 hck hr hbl hs; rw [HL.out.1] at hck ⊢; obtain ⟨g, hgw⟩ : ∃ q, w.heap.size = q := ⟨_, rfl⟩; rw [hgw] at hr ⊢; have H1 := Lib.hid (show BRow w1 5 g ck (b.map u8v) ∧ Below w.heap.size w w1 ∧ L ≤ ck ∧ g = w.heap.size from ⟨hr, hbl, hck, hgw.symm⟩); clear hck hr hbl hs hgw)
  refine (get_no w1 (some ⟨g, 0, none⟩) b L ck HL.out.1.symm H1.out.2.2.1 (maxle (by obtain ⟨_, _, _, _, _, _, _, h⟩ := H1.out.1; exact h)) H1.out.1.row.cells (HI.out.1.keep H1.out.2.1) (by rw [HL.out.1]; have := HL.out.2.1; omega) HG.out).mono ?_
  rintro e w2 ⟨rfl, hb⟩
  have H2 := Lib.hid (And.intro (H1.out.1.keep hb) (next H1.out.2.1 hb))
  clear hb dl es
  go_wp2_with ((with_reducible show wpList _ _ _ ((⟨none, .store _ _ _, _, _, _, _⟩ : Oper) :: _) _ _); refine wpList_store_msg w2 rfl (.tmp 4) (.tmp 19) rfl (mz) s0 rfl rfl ?_; intro w3 hB hW; obtain ⟨bx, hbx⟩ : ∃ x, w2.heap.size = x := ⟨_, rfl⟩; rw [hbx] at hB ⊢; have H3 := Lib.hid (show Bx w bx mz s0 w3 ∧ BRow w3 5 g ck (b.map u8v)  from ⟨⟨hB, next H2.out.2 hW⟩, H2.out.1.keep hW⟩); clear hB hW hbx)
  refine (rget_no w3 A b L c HL.out.1.symm HL.out.2.2.1 HL.out.2.2.2 ((HI.out.2.below H3.out.1.2).up H3.out.1.2.size) (by rw [HL.out.1]; have := HL.out.2.1; omega) HG.out).mono ?_
  rintro e w4 ⟨rfl, hb⟩
  have H4 := Lib.hid (And.intro (H3.out.1.keep hb) (H3.out.2.keep hb))
  clear hb
  obtain ⟨byx, hby⟩ : ∃ x, w4.heap.size = x := ⟨_, rfl⟩
  have hB4 := Blk.new w4 33 #[.int .u8 0, .int .i64 0, .int .i64 0, .int .i64 0, .string { data := #[] }, .int .i64 0, .int .i64 0, .int .i64 0, .int .i64 0, .int .i64 0, .bool false, .slice none 0 0, .slice none 0 0, .string { data := #[] }]
  rw [hby] at hB4
  have HB4 := Lib.hid hB4
  have HBY := Lib.hid hby
  clear hB4
  go_wp2_with ((with_reducible show wpList _ _ _ ((⟨none, .store _ _ _, _, _, _, _⟩ : Oper) :: _) _ _); refine wpList_store_mid rfl 33 (.tmp 6) (.tmp 24) rfl byx 0 (pvk mz none 0 0 none 0) (by simp [Act.eval, hby]) rfl (there_p HB4.out) pinfo (pvk_one _ _ _ _ _ _) ?_)
  have hf5 : Fr (fun k => k = byx) (w4.alloc (.cells #[.int .u8 0, .int .i64 0, .int .i64 0, .int .i64 0, .string { data := #[] }, .int .i64 0, .int .i64 0, .int .i64 0, .int .i64 0, .int .i64 0, .bool false, .slice none 0 0, .slice none 0 0, .string { data := #[] }] 33)) ((w4.alloc (.cells #[.int .u8 0, .int .i64 0, .int .i64 0, .int .i64 0, .string { data := #[] }, .int .i64 0, .int .i64 0, .int .i64 0, .int .i64 0, .int .i64 0, .bool false, .slice none 0 0, .slice none 0 0, .string { data := #[] }] 33)).setCells byx 0 (pvk mz none 0 0 none 0).toList) := fr_setCells (S := fun k => k = byx) rfl _ _ _ (Fr.refl _ _)
  obtain ⟨w5, hw5⟩ : ∃ x, (w4.alloc (.cells #[.int .u8 0, .int .i64 0, .int .i64 0, .int .i64 0, .string { data := #[] }, .int .i64 0, .int .i64 0, .int .i64 0, .int .i64 0, .int .i64 0, .bool false, .slice none 0 0, .slice none 0 0, .string { data := #[] }] 33)).setCells byx 0 (pvk mz none 0 0 none 0).toList = x := ⟨_, rfl⟩
  have hB5 := set14p HB4.out mz none 0 0 none 0
  rw [hw5] at hf5 hB5 ⊢
  have hb5 : Below w4.heap.size w4 w5 := (nextA (Mem.start w4) _).trans (hf5.below (by simp) fun k hk => by omega)
  have H5 := Lib.hid (show Gx w g ck bx byx b w1.heap.size mz s0 none 0 none 0 w5 from ⟨H4.out.1.1.keep hb5, hB5, next H4.out.1.2 hb5, H4.out.2.keep hb5, ⟨OwnK.nil, Own.nil, Own.nil⟩, mz_pin w5, mz_min w5⟩)
  clear hf5 hB5 hb5 hw5 hby
  refine wp_region_noPanic ?_
  refine wp_heldG (fun V => Gx w g ck bx byx b w1.heap.size mz s0 none 0 none 0 V) [] (by kernel_rfl) ?hs0 ?rg0
  case hs0 =>
    exact H5.out.keep (nextN (Mem.start _) 1)
  case rg0 =>
  intro hHeld
  refine wpAnyG_pure (i := 0) (oi := { dst := some 26, op := Op.move (Operand.tmp 5), type := 22, pos := _, after := #[], guard := none }) (v := ?_) rfl (by kernel_rfl) (by kernel_rfl) (by kernel_rfl) (by kernel_rfl) (fun _ _ _ h => h) (Or.inl ⟨by rfl, ?_⟩) (fun _ => by assumption) ?_
  rotate_left
  · intro w hSw
    try dsimp only at hSw
    go_simp
    try with_reducible rfl
  try simp only [Act.put, List.setIfInBounds_toArray, List.set_cons_zero, List.set_cons_succ]
  refine wpAnyG_pure (i := 1) (oi := { dst := some 27, op := Op.binOp BinOp.eql 22 (Operand.tmp 26) (Operand.const (Value.int IntKind.i64 0)) 22, type := 4, pos := _, after := #[{ on := 0, ground := Ground.data }], guard := none }) (v := ?_) rfl (by kernel_rfl) (by kernel_rfl) (by kernel_rfl) (by kernel_rfl) (fun _ _ _ h => h) (Or.inl ⟨by rfl, ?_⟩) (fun _ => by assumption) ?_
  rotate_left
  · intro w hSw
    try dsimp only at hSw
    go_simp
    try with_reducible rfl
  try simp only [Act.put, List.setIfInBounds_toArray, List.set_cons_zero, List.set_cons_succ]
  refine wpAnyG_pure (i := 2) (oi := { dst := some 28, op := Op.move (Operand.tmp 7), type := 4, pos := _, after := #[], guard := none }) (v := ?_) rfl (by kernel_rfl) (by kernel_rfl) (by kernel_rfl) (by kernel_rfl) (fun _ _ _ h => h) (Or.inl ⟨by rfl, ?_⟩) (fun _ => by assumption) ?_
  rotate_left
  · intro w hSw
    try dsimp only at hSw
    go_simp
    try with_reducible rfl
  try simp only [Act.put, List.setIfInBounds_toArray, List.set_cons_zero, List.set_cons_succ]
  refine wpAnyG_pure (i := 3) (oi := { dst := some 29, op := Op.binOp BinOp.neq 4 (Operand.tmp 27) (Operand.tmp 28) 4, type := 4, pos := _, after := #[{ on := 1, ground := Ground.data }, { on := 2, ground := Ground.data }], guard := none }) (v := ?_) rfl (by kernel_rfl) (by kernel_rfl) (by kernel_rfl) (by kernel_rfl) (fun _ _ _ h => h) (Or.inl ⟨by rfl, ?_⟩) (fun _ => by assumption) ?_
  rotate_left
  · intro w hSw
    try dsimp only at hSw
    go_simp
    try with_reducible rfl
  try simp only [Act.put, List.setIfInBounds_toArray, List.set_cons_zero, List.set_cons_succ]
  refine wpAnyG_pure (i := 4) (oi := { dst := some 30, op := Op.move (Operand.tmp 29), type := 4, pos := _, after := #[{ on := 3, ground := Ground.data }], guard := none }) (v := ?_) rfl (by kernel_rfl) (by kernel_rfl) (by kernel_rfl) (by kernel_rfl) (fun _ _ _ h => h) (Or.inl ⟨by rfl, ?_⟩) (fun _ => by assumption) ?_
  rotate_left
  · intro w hSw
    try dsimp only at hSw
    go_simp
    try with_reducible rfl
  try simp only [Act.put, List.setIfInBounds_toArray, List.set_cons_zero, List.set_cons_succ]
  refine wpAnyG_pure (i := 5) (oi := { dst := some 31, op := Op.move (Operand.tmp 7), type := 4, pos := _, after := #[{ on := 4, ground := Ground.guard }], guard := some (4, false) }) (v := ?_) rfl (by kernel_rfl) (by kernel_rfl) (by kernel_rfl) (by kernel_rfl) (fun _ _ _ h => h) (Or.inl ⟨by rfl, ?_⟩) (fun _ => by assumption) ?_
  rotate_left
  · intro w hSw
    try dsimp only at hSw
    go_simp
    try with_reducible rfl
  try simp only [Act.put, List.setIfInBounds_toArray, List.set_cons_zero, List.set_cons_succ]
  refine wpAnyG_pure (i := 6) (oi := { dst := some 32, op := Op.unOp UnOp.not 4 (Operand.tmp 31), type := 4, pos := _, after := #[{ on := 5, ground := Ground.data }, { on := 4, ground := Ground.guard }], guard := some (4, false) }) (v := ?_) rfl (by kernel_rfl) (by kernel_rfl) (by kernel_rfl) (by kernel_rfl) (fun _ _ _ h => h) (Or.inl ⟨by rfl, ?_⟩) (fun _ => by assumption) ?_
  rotate_left
  · intro w hSw
    try dsimp only at hSw
    go_simp
    try with_reducible rfl
  try simp only [Act.put, List.setIfInBounds_toArray, List.set_cons_zero, List.set_cons_succ]
  refine wpAnyG_pure (i := 7) (oi := { dst := some 33, op := Op.move (Operand.tmp 32), type := 4, pos := _, after := #[{ on := 6, ground := Ground.data }, { on := 4, ground := Ground.chain }, { on := 4, ground := Ground.guard }], guard := some (4, false) }) (v := ?_) rfl (by kernel_rfl) (by kernel_rfl) (by kernel_rfl) (by kernel_rfl) (fun _ _ _ h => h) (Or.inl ⟨by rfl, ?_⟩) (fun _ => by assumption) ?_
  rotate_left
  · intro w hSw
    try dsimp only at hSw
    go_simp
    try with_reducible rfl
  try simp only [Act.put, List.setIfInBounds_toArray, List.set_cons_zero, List.set_cons_succ]
  refine wpAnyG_pure (i := 8) (oi := { dst := some 34, op := Op.move (Operand.tmp 5), type := 22, pos := _, after := #[{ on := 7, ground := Ground.guard }], guard := some (7, true) }) (v := ?_) rfl (by kernel_rfl) (by kernel_rfl) (by kernel_rfl) (by kernel_rfl) (fun _ _ _ h => h) (Or.inl ⟨by rfl, ?_⟩) (fun _ => by assumption) ?_
  rotate_left
  · intro w hSw
    try dsimp only at hSw
    go_simp
    try with_reducible rfl
  try simp only [Act.put, List.setIfInBounds_toArray, List.set_cons_zero, List.set_cons_succ]
  refine wpAnyG_pure (i := 9) (oi := { dst := some 35, op := Op.binOp BinOp.neq 22 (Operand.tmp 34) (Operand.const (Value.int IntKind.i64 170)) 22, type := 4, pos := _, after := #[{ on := 8, ground := Ground.data }, { on := 7, ground := Ground.guard }], guard := some (7, true) }) (v := ?_) rfl (by kernel_rfl) (by kernel_rfl) (by kernel_rfl) (by kernel_rfl) (fun _ _ _ h => h) (Or.inl ⟨by rfl, ?_⟩) (fun _ => by assumption) ?_
  rotate_left
  · intro w hSw
    try dsimp only at hSw
    go_simp
    try with_reducible rfl
  try simp only [Act.put, List.setIfInBounds_toArray, List.set_cons_zero, List.set_cons_succ]
  refine wpAnyG_pure (i := 10) (oi := { dst := some 36, op := Op.pick (Operand.tmp 33) (Operand.tmp 35) (Operand.const (Value.bool false)), type := 4, pos := _, after := #[{ on := 7, ground := Ground.data }, { on := 9, ground := Ground.data }, { on := 4, ground := Ground.guard }], guard := some (4, false) }) (v := ?_) rfl (by kernel_rfl) (by kernel_rfl) (by kernel_rfl) (by kernel_rfl) (fun _ _ _ h => h) (Or.inl ⟨by rfl, ?_⟩) (fun _ => by assumption) ?_
  rotate_left
  · intro w hSw
    try dsimp only at hSw
    go_simp
    try with_reducible rfl
  try simp only [Act.put, List.setIfInBounds_toArray, List.set_cons_zero, List.set_cons_succ]
  refine wpAnyG_pure (i := 11) (oi := { dst := some 37, op := Op.pick (Operand.tmp 30) (Operand.const (Value.bool true)) (Operand.tmp 36), type := 4, pos := _, after := #[{ on := 4, ground := Ground.data }, { on := 10, ground := Ground.data }], guard := none }) (v := ?_) rfl (by kernel_rfl) (by kernel_rfl) (by kernel_rfl) (by kernel_rfl) (fun _ _ _ h => h) (Or.inl ⟨by rfl, ?_⟩) (fun _ => by assumption) ?_
  rotate_left
  · intro w hSw
    try dsimp only at hSw
    go_simp
    try with_reducible rfl
  try simp only [Act.put, List.setIfInBounds_toArray, List.set_cons_zero, List.set_cons_succ]
  refine wpAnyG_pure (i := 12) (oi := { dst := some 38, op := Op.move (Operand.tmp 37), type := 4, pos := _, after := #[{ on := 11, ground := Ground.data }, { on := 7, ground := Ground.chain }], guard := none }) (v := ?_) rfl (by kernel_rfl) (by kernel_rfl) (by kernel_rfl) (by kernel_rfl) (fun _ _ _ h => h) (Or.inl ⟨by rfl, ?_⟩) (fun _ => by assumption) ?_
  rotate_left
  · intro w hSw
    try dsimp only at hSw
    go_simp
    try with_reducible rfl
  try simp only [Act.put, List.setIfInBounds_toArray, List.set_cons_zero, List.set_cons_succ]
  refine wpAnyG_take (i := 13) (oi := { dst := some 39, op := Op.load 27 (Operand.tmp 4), type := 27, pos := _, after := #[{ on := 12, ground := Ground.guard }], guard := some (12, false) }) (v := ?_) rfl (by kernel_rfl) (by kernel_rfl) (by kernel_rfl) (by kernel_rfl) (fun _ _ _ h => h) (Or.inl ⟨by rfl, ?_⟩) (by assumption) ?_
  rotate_left
  · intro w hSw
    try dsimp only at hSw
    refine exec_load 27 (.tmp 4) ?_ _ ?_ (.agg (mv mz s0)) (load_msg hSw.1)
    · rfl
    · rfl
  try simp only [Act.put, List.setIfInBounds_toArray, List.set_cons_zero, List.set_cons_succ]
  refine wpAnyG_take (i := 15) (oi := { dst := some 41, op := Op.load 33 (Operand.tmp 6), type := 33, pos := _, after := #[{ on := 12, ground := Ground.guard }], guard := some (12, false) }) (v := ?_) rfl (by kernel_rfl) (by kernel_rfl) (by kernel_rfl) (by kernel_rfl) (fun _ _ _ h => h) (Or.inl ⟨by rfl, ?_⟩) (by assumption) ?_
  rotate_left
  · intro w hSw
    try dsimp only at hSw
    refine exec_load 33 (.tmp 6) ?_ _ ?_ (.agg (pv mz none 0 none 0)) (load_pv hSw.2.1)
    · rfl
    · rfl
  try simp only [Act.put, List.setIfInBounds_toArray, List.set_cons_zero, List.set_cons_succ]
  refine wpAnyG_one (i := 14) (o := { dst := some 40, op := Op.call { callee := Callee.value (Operand.func 12), args := #[Operand.tmp 39], argTypes := #[27] }, type := 33, pos := _, after := #[{ on := 13, ground := Ground.data }, { on := 12, ground := Ground.chain }, { on := 12, ground := Ground.guard }], guard := some (12, false) }) (by kernel_rfl) rfl (fun K hK => ?_)
  go_simp
  refine (plain_any _ mz s0 hHeld.2.2.2.2.2.2).mono ?_
  rintro e w6 ⟨A6, c6, rfl, hp6, hb⟩
  have HP6 := Lib.hid (And.intro hp6 (hHeld.keep hb))
  clear hp6
  try dsimp only
  refine hK.out _ _ ?_ (fun hHeld => ?_)
  · intro _
    try dsimp only
    exact hHeld.keep hb
  clear hK K
  try simp only [Act.put, List.setIfInBounds_toArray, List.set_cons_zero, List.set_cons_succ]
  have hHeld := hHeld (by kernel_rfl)
  refine wpAnyG_one (i := 16) (o := { dst := some 42, op := Op.call { callee := Callee.value (Operand.func 17), args := #[Operand.tmp 40, Operand.tmp 41], argTypes := #[33, 33] }, type := 4, pos := _, after := #[{ on := 14, ground := Ground.data }, { on := 15, ground := Ground.data }, { on := 14, ground := Ground.chain }, { on := 12, ground := Ground.guard }], guard := some (12, false) }) (by kernel_rfl) rfl (fun K hK => ?_)
  go_simp
  refine (rsame_any _ mz mz _ _ _ _ _ _ _ _ HP6.out.1 HP6.out.2.2.2.2.2.2.1).mono ?_
  rintro e w7 ⟨rfl, hb⟩
  rw [same_refl]
  try dsimp only
  refine hK.out _ _ ?_ (fun hHeld => ?_)
  · intro _
    try dsimp only
    exact hHeld.keep hb
  clear hK K
  try simp only [Act.put, List.setIfInBounds_toArray, List.set_cons_zero, List.set_cons_succ]
  have hHeld := hHeld (by kernel_rfl)
  refine wpAnyG_pure (i := 17) (oi := { dst := some 43, op := Op.unOp UnOp.not 4 (Operand.tmp 42), type := 4, pos := _, after := #[{ on := 16, ground := Ground.data }, { on := 12, ground := Ground.guard }], guard := some (12, false) }) (v := ?_) rfl (by kernel_rfl) (by kernel_rfl) (by kernel_rfl) (by kernel_rfl) (fun _ _ _ h => h) (Or.inl ⟨by rfl, ?_⟩) (fun _ => by assumption) ?_
  rotate_left
  · intro w hSw
    try dsimp only at hSw
    go_simp
    try with_reducible rfl
  try simp only [Act.put, List.setIfInBounds_toArray, List.set_cons_zero, List.set_cons_succ]
  refine wpAnyG_pure (i := 18) (oi := { dst := some 44, op := Op.pick (Operand.tmp 38) (Operand.const (Value.bool true)) (Operand.tmp 43), type := 4, pos := _, after := #[{ on := 12, ground := Ground.data }, { on := 17, ground := Ground.data }], guard := none }) (v := ?_) rfl (by kernel_rfl) (by kernel_rfl) (by kernel_rfl) (by kernel_rfl) (fun _ _ _ h => h) (Or.inl ⟨by rfl, ?_⟩) (fun _ => by assumption) ?_
  rotate_left
  · intro w hSw
    try dsimp only at hSw
    go_simp
    try with_reducible rfl
  try simp only [Act.put, List.setIfInBounds_toArray, List.set_cons_zero, List.set_cons_succ]
  refine wpAnyG_done (by kernel_rfl) ?_ _
  refine NoPanic.normal ?_
  have H6 := Lib.hid hHeld
  clear hHeld
  go_wp2_with fail
  go_loopw [8] (fun i wr => i = .int .i64 0 ∧ Gx w g ck bx byx b w1.heap.size mz s0 none 0 none 0 wr) (fun _ _ => 0)
  case atStart => exact ⟨rfl, H6.out⟩
  case round =>
      clear H6
      obtain ⟨rfl, hB⟩ := hrel
      have HR := Lib.hid hB
      have d13 := hB.1.cell 13
      simp [mv, mz, msg0, s0] at d13
      clear hB
      have e1 := run_str (P := Tryd.prog) wr 25 5 Tryd.underlying25 Tryd.underlying5 (show Bytes wr wr.heap.size (some ⟨g, 0, none⟩) b from HR.out.2.2.2.1.row.cells) ck 9 Tryd.underlying9
      have e2 := run_str (P := Tryd.prog) wr 25 5 Tryd.underlying25 Tryd.underlying5 (HI.out.2.below HR.out.2.2.1) c 9 Tryd.underlying9
      rw [HL.out.1] at e1 e2
      have eb : ((str b).toList == (str b).toList) = true := by simp
      go_wp2_with fail
      refine (works_any wr (HI.out.1.keep HR.out.2.2.1)).mono ?_
      rintro e w8 ⟨rfl, hb⟩
      have H8 := Lib.hid (next HR.out.2.2.1 hb)
      clear hb
      go_wp2_with fail
      go_ret
      exact ⟨rfl, H8.out⟩
set_option maxRecDepth 100000 in
set_option maxHeartbeats 16000000 in
theorem gets_yes (w : World) (hT : HasT w) (A : Option Addr) (b : List UInt8) (c : Nat) (hle : b.length ≤ c) (hmx : c ≤ maxLen) (hb : Bytes w w.heap.size A b) (hl : b.length ≤ 5000) (m : Msg) (hg : Wi.get b = some m) :
    Calls Tryd.prog 4 #[.slice A b.length c] w fun e w' => e = .returned (.bool true) ∧ Below w.heap.size w w' := by
  have HI := Lib.hid (And.intro hT hb)
  obtain ⟨L, hL⟩ : ∃ L, b.length = L := ⟨_, rfl⟩
  have es := run_str (P := Tryd.prog) w 25 5 Tryd.underlying25 Tryd.underlying5 hb c 9 Tryd.underlying9
  have HL := Lib.hid (show b.length = L ∧ L ≤ 5000 ∧ L ≤ c ∧ c ≤ 9223372036854775807 from ⟨hL, by omega, by omega, maxle hmx⟩)
  have HG := Lib.hid hg
  rw [hL] at es ⊢
  have dl : decide ((5000 : Int) < ((L : Nat) : Int)) = false := decide_eq_false (by omega)
  clear hT hb hle hmx hl hg hL
  go_enter Tryd.func4, Tryd.ntmps4
  go_wp2_with ((with_reducible show wpList _ _ _ ((⟨some 15, _, _, _, _, _⟩ : Oper) :: _) _ _); refine wpList_bytesOfB w (by rfl) 9 25 (.tmp 14) rfl 5 Tryd.underlying9 Tryd.underlying25 Tryd.underlying5 b (by rw [HL.out.1]; have := HL.out.2.1; unfold maxLen; omega) rfl ?_; intro ck w1 hck hr hbl hs; rw [HL.out.1] at hck ⊢; obtain ⟨g, hgw⟩ : ∃ q, w.heap.size = q := ⟨_, rfl⟩; rw [hgw] at hr ⊢; have H1 := Lib.hid (show BRow w1 5 g ck (b.map u8v) ∧ Below w.heap.size w w1 ∧ L ≤ ck ∧ g = w.heap.size from ⟨hr, hbl, hck, hgw.symm⟩); clear hck hr hbl hs hgw)
  refine (get_yes w1 (some ⟨g, 0, none⟩) b L ck HL.out.1.symm H1.out.2.2.1 (maxle (by obtain ⟨_, _, _, _, _, _, _, h⟩ := H1.out.1; exact h)) H1.out.1.row.cells (HI.out.1.keep H1.out.2.1) (by rw [HL.out.1]; have := HL.out.2.1; omega) m HG.out).mono ?_
  rintro e w2 ⟨s, rfl, ho, hb⟩
  have H2 := Lib.hid (And.intro (H1.out.1.keep hb) (And.intro (next H1.out.2.1 hb) ho))
  clear hb dl es
  go_wp2_with ((with_reducible show wpList _ _ _ ((⟨none, .store _ _ _, _, _, _, _⟩ : Oper) :: _) _ _); refine wpList_store_msg w2 rfl (.tmp 4) (.tmp 19) rfl m s rfl rfl ?_; intro w3 hB hW; obtain ⟨bx, hbx⟩ : ∃ x, w2.heap.size = x := ⟨_, rfl⟩; rw [hbx] at hB ⊢; have H3 := Lib.hid (show Bx w bx m s w3 ∧ BRow w3 5 g ck (b.map u8v) ∧ RowsO w3 w1.heap.size m s from ⟨⟨hB, next H2.out.2.1 hW⟩, H2.out.1.keep hW, H2.out.2.2.keep hW⟩); clear hB hW hbx)
  refine (rget_yes w3 A b L c HL.out.1.symm HL.out.2.2.1 HL.out.2.2.2 ((HI.out.2.below H3.out.1.2).up H3.out.1.2.size) (by rw [HL.out.1]; have := HL.out.2.1; omega) m HG.out).mono ?_
  rintro e w4 ⟨A1, c1, na, nc, rfl, hp, hb⟩
  have H4 := Lib.hid (And.intro (H3.out.1.keep hb) (And.intro (H3.out.2.1.keep hb) (And.intro (H3.out.2.2.keep hb) hp)))
  clear hb
  obtain ⟨byx, hby⟩ : ∃ x, w4.heap.size = x := ⟨_, rfl⟩
  have hB4 := Blk.new w4 33 #[.int .u8 0, .int .i64 0, .int .i64 0, .int .i64 0, .string { data := #[] }, .int .i64 0, .int .i64 0, .int .i64 0, .int .i64 0, .int .i64 0, .bool false, .slice none 0 0, .slice none 0 0, .string { data := #[] }]
  rw [hby] at hB4
  have HB4 := Lib.hid hB4
  have HBY := Lib.hid hby
  clear hB4
  go_wp2_with ((with_reducible show wpList _ _ _ ((⟨none, .store _ _ _, _, _, _, _⟩ : Oper) :: _) _ _); refine wpList_store_mid rfl 33 (.tmp 6) (.tmp 24) rfl byx 0 (pvk m A1 m.ids.length c1 na nc) (by simp [Act.eval, hby]) rfl (there_p HB4.out) pinfo (pvk_one _ _ _ _ _ _) ?_)
  have hf5 : Fr (fun k => k = byx) (w4.alloc (.cells #[.int .u8 0, .int .i64 0, .int .i64 0, .int .i64 0, .string { data := #[] }, .int .i64 0, .int .i64 0, .int .i64 0, .int .i64 0, .int .i64 0, .bool false, .slice none 0 0, .slice none 0 0, .string { data := #[] }] 33)) ((w4.alloc (.cells #[.int .u8 0, .int .i64 0, .int .i64 0, .int .i64 0, .string { data := #[] }, .int .i64 0, .int .i64 0, .int .i64 0, .int .i64 0, .int .i64 0, .bool false, .slice none 0 0, .slice none 0 0, .string { data := #[] }] 33)).setCells byx 0 (pvk m A1 m.ids.length c1 na nc).toList) := fr_setCells (S := fun k => k = byx) rfl _ _ _ (Fr.refl _ _)
  obtain ⟨w5, hw5⟩ : ∃ x, (w4.alloc (.cells #[.int .u8 0, .int .i64 0, .int .i64 0, .int .i64 0, .string { data := #[] }, .int .i64 0, .int .i64 0, .int .i64 0, .int .i64 0, .int .i64 0, .bool false, .slice none 0 0, .slice none 0 0, .string { data := #[] }] 33)).setCells byx 0 (pvk m A1 m.ids.length c1 na nc).toList = x := ⟨_, rfl⟩
  have hB5 := set14p HB4.out m A1 m.ids.length c1 na nc
  rw [hw5] at hf5 hB5 ⊢
  have hb5 : Below w4.heap.size w4 w5 := (nextA (Mem.start w4) _).trans (hf5.below (by simp) fun k hk => by omega)
  have H5 := Lib.hid (show Gx w g ck bx byx b w1.heap.size m s A1 c1 na nc w5 from ⟨H4.out.1.1.keep hb5, hB5, next H4.out.1.2 hb5, H4.out.2.1.keep hb5, H4.out.2.2.1.keep hb5, H4.out.2.2.2.keep hb5, (H4.out.2.2.1.min (get_may HG.out)).keep hb5⟩)
  clear hf5 hB5 hb5 hw5 hby
  refine wp_region_noPanic ?_
  refine wp_heldG (fun V => Gx w g ck bx byx b w1.heap.size m s A1 c1 na nc V) [] (by kernel_rfl) ?hs0 ?rg0
  case hs0 =>
    exact H5.out.keep (nextN (Mem.start _) 1)
  case rg0 =>
  intro hHeld
  refine wpAnyG_pure (i := 0) (oi := { dst := some 26, op := Op.move (Operand.tmp 5), type := 22, pos := _, after := #[], guard := none }) (v := ?_) rfl (by kernel_rfl) (by kernel_rfl) (by kernel_rfl) (by kernel_rfl) (fun _ _ _ h => h) (Or.inl ⟨by rfl, ?_⟩) (fun _ => by assumption) ?_
  rotate_left
  · intro w hSw
    try dsimp only at hSw
    go_simp
    try with_reducible rfl
  try simp only [Act.put, List.setIfInBounds_toArray, List.set_cons_zero, List.set_cons_succ]
  refine wpAnyG_pure (i := 1) (oi := { dst := some 27, op := Op.binOp BinOp.eql 22 (Operand.tmp 26) (Operand.const (Value.int IntKind.i64 0)) 22, type := 4, pos := _, after := #[{ on := 0, ground := Ground.data }], guard := none }) (v := ?_) rfl (by kernel_rfl) (by kernel_rfl) (by kernel_rfl) (by kernel_rfl) (fun _ _ _ h => h) (Or.inl ⟨by rfl, ?_⟩) (fun _ => by assumption) ?_
  rotate_left
  · intro w hSw
    try dsimp only at hSw
    go_simp
    try with_reducible rfl
  try simp only [Act.put, List.setIfInBounds_toArray, List.set_cons_zero, List.set_cons_succ]
  refine wpAnyG_pure (i := 2) (oi := { dst := some 28, op := Op.move (Operand.tmp 7), type := 4, pos := _, after := #[], guard := none }) (v := ?_) rfl (by kernel_rfl) (by kernel_rfl) (by kernel_rfl) (by kernel_rfl) (fun _ _ _ h => h) (Or.inl ⟨by rfl, ?_⟩) (fun _ => by assumption) ?_
  rotate_left
  · intro w hSw
    try dsimp only at hSw
    go_simp
    try with_reducible rfl
  try simp only [Act.put, List.setIfInBounds_toArray, List.set_cons_zero, List.set_cons_succ]
  refine wpAnyG_pure (i := 3) (oi := { dst := some 29, op := Op.binOp BinOp.neq 4 (Operand.tmp 27) (Operand.tmp 28) 4, type := 4, pos := _, after := #[{ on := 1, ground := Ground.data }, { on := 2, ground := Ground.data }], guard := none }) (v := ?_) rfl (by kernel_rfl) (by kernel_rfl) (by kernel_rfl) (by kernel_rfl) (fun _ _ _ h => h) (Or.inl ⟨by rfl, ?_⟩) (fun _ => by assumption) ?_
  rotate_left
  · intro w hSw
    try dsimp only at hSw
    go_simp
    try with_reducible rfl
  try simp only [Act.put, List.setIfInBounds_toArray, List.set_cons_zero, List.set_cons_succ]
  refine wpAnyG_pure (i := 4) (oi := { dst := some 30, op := Op.move (Operand.tmp 29), type := 4, pos := _, after := #[{ on := 3, ground := Ground.data }], guard := none }) (v := ?_) rfl (by kernel_rfl) (by kernel_rfl) (by kernel_rfl) (by kernel_rfl) (fun _ _ _ h => h) (Or.inl ⟨by rfl, ?_⟩) (fun _ => by assumption) ?_
  rotate_left
  · intro w hSw
    try dsimp only at hSw
    go_simp
    try with_reducible rfl
  try simp only [Act.put, List.setIfInBounds_toArray, List.set_cons_zero, List.set_cons_succ]
  refine wpAnyG_pure (i := 5) (oi := { dst := some 31, op := Op.move (Operand.tmp 7), type := 4, pos := _, after := #[{ on := 4, ground := Ground.guard }], guard := some (4, false) }) (v := ?_) rfl (by kernel_rfl) (by kernel_rfl) (by kernel_rfl) (by kernel_rfl) (fun _ _ _ h => h) (Or.inl ⟨by rfl, ?_⟩) (fun _ => by assumption) ?_
  rotate_left
  · intro w hSw
    try dsimp only at hSw
    go_simp
    try with_reducible rfl
  try simp only [Act.put, List.setIfInBounds_toArray, List.set_cons_zero, List.set_cons_succ]
  refine wpAnyG_pure (i := 6) (oi := { dst := some 32, op := Op.unOp UnOp.not 4 (Operand.tmp 31), type := 4, pos := _, after := #[{ on := 5, ground := Ground.data }, { on := 4, ground := Ground.guard }], guard := some (4, false) }) (v := ?_) rfl (by kernel_rfl) (by kernel_rfl) (by kernel_rfl) (by kernel_rfl) (fun _ _ _ h => h) (Or.inl ⟨by rfl, ?_⟩) (fun _ => by assumption) ?_
  rotate_left
  · intro w hSw
    try dsimp only at hSw
    go_simp
    try with_reducible rfl
  try simp only [Act.put, List.setIfInBounds_toArray, List.set_cons_zero, List.set_cons_succ]
  refine wpAnyG_pure (i := 7) (oi := { dst := some 33, op := Op.move (Operand.tmp 32), type := 4, pos := _, after := #[{ on := 6, ground := Ground.data }, { on := 4, ground := Ground.chain }, { on := 4, ground := Ground.guard }], guard := some (4, false) }) (v := ?_) rfl (by kernel_rfl) (by kernel_rfl) (by kernel_rfl) (by kernel_rfl) (fun _ _ _ h => h) (Or.inl ⟨by rfl, ?_⟩) (fun _ => by assumption) ?_
  rotate_left
  · intro w hSw
    try dsimp only at hSw
    go_simp
    try with_reducible rfl
  try simp only [Act.put, List.setIfInBounds_toArray, List.set_cons_zero, List.set_cons_succ]
  refine wpAnyG_pure (i := 8) (oi := { dst := some 34, op := Op.move (Operand.tmp 5), type := 22, pos := _, after := #[{ on := 7, ground := Ground.guard }], guard := some (7, true) }) (v := undef) rfl (by kernel_rfl) (by kernel_rfl) (by kernel_rfl) (by kernel_rfl) (fun _ _ _ h => h) (Or.inr ⟨by rfl, rfl⟩) (fun _ => by assumption) ?_
  try simp only [Act.put, List.setIfInBounds_toArray, List.set_cons_zero, List.set_cons_succ]
  refine wpAnyG_pure (i := 9) (oi := { dst := some 35, op := Op.binOp BinOp.neq 22 (Operand.tmp 34) (Operand.const (Value.int IntKind.i64 170)) 22, type := 4, pos := _, after := #[{ on := 8, ground := Ground.data }, { on := 7, ground := Ground.guard }], guard := some (7, true) }) (v := undef) rfl (by kernel_rfl) (by kernel_rfl) (by kernel_rfl) (by kernel_rfl) (fun _ _ _ h => h) (Or.inr ⟨by rfl, rfl⟩) (fun _ => by assumption) ?_
  try simp only [Act.put, List.setIfInBounds_toArray, List.set_cons_zero, List.set_cons_succ]
  refine wpAnyG_pure (i := 10) (oi := { dst := some 36, op := Op.pick (Operand.tmp 33) (Operand.tmp 35) (Operand.const (Value.bool false)), type := 4, pos := _, after := #[{ on := 7, ground := Ground.data }, { on := 9, ground := Ground.data }, { on := 4, ground := Ground.guard }], guard := some (4, false) }) (v := ?_) rfl (by kernel_rfl) (by kernel_rfl) (by kernel_rfl) (by kernel_rfl) (fun _ _ _ h => h) (Or.inl ⟨by rfl, ?_⟩) (fun _ => by assumption) ?_
  rotate_left
  · intro w hSw
    try dsimp only at hSw
    go_simp
    try with_reducible rfl
  try simp only [Act.put, List.setIfInBounds_toArray, List.set_cons_zero, List.set_cons_succ]
  refine wpAnyG_pure (i := 11) (oi := { dst := some 37, op := Op.pick (Operand.tmp 30) (Operand.const (Value.bool true)) (Operand.tmp 36), type := 4, pos := _, after := #[{ on := 4, ground := Ground.data }, { on := 10, ground := Ground.data }], guard := none }) (v := ?_) rfl (by kernel_rfl) (by kernel_rfl) (by kernel_rfl) (by kernel_rfl) (fun _ _ _ h => h) (Or.inl ⟨by rfl, ?_⟩) (fun _ => by assumption) ?_
  rotate_left
  · intro w hSw
    try dsimp only at hSw
    go_simp
    try with_reducible rfl
  try simp only [Act.put, List.setIfInBounds_toArray, List.set_cons_zero, List.set_cons_succ]
  refine wpAnyG_pure (i := 12) (oi := { dst := some 38, op := Op.move (Operand.tmp 37), type := 4, pos := _, after := #[{ on := 11, ground := Ground.data }, { on := 7, ground := Ground.chain }], guard := none }) (v := ?_) rfl (by kernel_rfl) (by kernel_rfl) (by kernel_rfl) (by kernel_rfl) (fun _ _ _ h => h) (Or.inl ⟨by rfl, ?_⟩) (fun _ => by assumption) ?_
  rotate_left
  · intro w hSw
    try dsimp only at hSw
    go_simp
    try with_reducible rfl
  try simp only [Act.put, List.setIfInBounds_toArray, List.set_cons_zero, List.set_cons_succ]
  refine wpAnyG_take (i := 13) (oi := { dst := some 39, op := Op.load 27 (Operand.tmp 4), type := 27, pos := _, after := #[{ on := 12, ground := Ground.guard }], guard := some (12, false) }) (v := ?_) rfl (by kernel_rfl) (by kernel_rfl) (by kernel_rfl) (by kernel_rfl) (fun _ _ _ h => h) (Or.inl ⟨by rfl, ?_⟩) (by assumption) ?_
  rotate_left
  · intro w hSw
    try dsimp only at hSw
    refine exec_load 27 (.tmp 4) ?_ _ ?_ (.agg (mv m s)) (load_msg hSw.1)
    · rfl
    · rfl
  try simp only [Act.put, List.setIfInBounds_toArray, List.set_cons_zero, List.set_cons_succ]
  refine wpAnyG_take (i := 15) (oi := { dst := some 41, op := Op.load 33 (Operand.tmp 6), type := 33, pos := _, after := #[{ on := 12, ground := Ground.guard }], guard := some (12, false) }) (v := ?_) rfl (by kernel_rfl) (by kernel_rfl) (by kernel_rfl) (by kernel_rfl) (fun _ _ _ h => h) (Or.inl ⟨by rfl, ?_⟩) (by assumption) ?_
  rotate_left
  · intro w hSw
    try dsimp only at hSw
    refine exec_load 33 (.tmp 6) ?_ _ ?_ (.agg (pv m A1 c1 na nc)) (load_pv hSw.2.1)
    · rfl
    · rfl
  try simp only [Act.put, List.setIfInBounds_toArray, List.set_cons_zero, List.set_cons_succ]
  refine wpAnyG_one (i := 14) (o := { dst := some 40, op := Op.call { callee := Callee.value (Operand.func 12), args := #[Operand.tmp 39], argTypes := #[27] }, type := 33, pos := _, after := #[{ on := 13, ground := Ground.data }, { on := 12, ground := Ground.chain }, { on := 12, ground := Ground.guard }], guard := some (12, false) }) (by kernel_rfl) rfl (fun K hK => ?_)
  go_simp
  refine (plain_any _ m s hHeld.2.2.2.2.2.2).mono ?_
  rintro e w6 ⟨A6, c6, rfl, hp6, hb⟩
  have HP6 := Lib.hid (And.intro hp6 (hHeld.keep hb))
  clear hp6
  try dsimp only
  refine hK.out _ _ ?_ (fun hHeld => ?_)
  · intro _
    try dsimp only
    exact hHeld.keep hb
  clear hK K
  try simp only [Act.put, List.setIfInBounds_toArray, List.set_cons_zero, List.set_cons_succ]
  have hHeld := hHeld (by kernel_rfl)
  refine wpAnyG_one (i := 16) (o := { dst := some 42, op := Op.call { callee := Callee.value (Operand.func 17), args := #[Operand.tmp 40, Operand.tmp 41], argTypes := #[33, 33] }, type := 4, pos := _, after := #[{ on := 14, ground := Ground.data }, { on := 15, ground := Ground.data }, { on := 14, ground := Ground.chain }, { on := 12, ground := Ground.guard }], guard := some (12, false) }) (by kernel_rfl) rfl (fun K hK => ?_)
  go_simp
  refine (rsame_any _ m m _ _ _ _ _ _ _ _ HP6.out.1 HP6.out.2.2.2.2.2.2.1).mono ?_
  rintro e w7 ⟨rfl, hb⟩
  rw [same_refl]
  try dsimp only
  refine hK.out _ _ ?_ (fun hHeld => ?_)
  · intro _
    try dsimp only
    exact hHeld.keep hb
  clear hK K
  try simp only [Act.put, List.setIfInBounds_toArray, List.set_cons_zero, List.set_cons_succ]
  have hHeld := hHeld (by kernel_rfl)
  refine wpAnyG_pure (i := 17) (oi := { dst := some 43, op := Op.unOp UnOp.not 4 (Operand.tmp 42), type := 4, pos := _, after := #[{ on := 16, ground := Ground.data }, { on := 12, ground := Ground.guard }], guard := some (12, false) }) (v := ?_) rfl (by kernel_rfl) (by kernel_rfl) (by kernel_rfl) (by kernel_rfl) (fun _ _ _ h => h) (Or.inl ⟨by rfl, ?_⟩) (fun _ => by assumption) ?_
  rotate_left
  · intro w hSw
    try dsimp only at hSw
    go_simp
    try with_reducible rfl
  try simp only [Act.put, List.setIfInBounds_toArray, List.set_cons_zero, List.set_cons_succ]
  refine wpAnyG_pure (i := 18) (oi := { dst := some 44, op := Op.pick (Operand.tmp 38) (Operand.const (Value.bool true)) (Operand.tmp 43), type := 4, pos := _, after := #[{ on := 12, ground := Ground.data }, { on := 17, ground := Ground.data }], guard := none }) (v := ?_) rfl (by kernel_rfl) (by kernel_rfl) (by kernel_rfl) (by kernel_rfl) (fun _ _ _ h => h) (Or.inl ⟨by rfl, ?_⟩) (fun _ => by assumption) ?_
  rotate_left
  · intro w hSw
    try dsimp only at hSw
    go_simp
    try with_reducible rfl
  try simp only [Act.put, List.setIfInBounds_toArray, List.set_cons_zero, List.set_cons_succ]
  refine wpAnyG_done (by kernel_rfl) ?_ _
  refine NoPanic.normal ?_
  have H6 := Lib.hid hHeld
  clear hHeld
  go_wp2_with fail
  obtain ⟨D, hD⟩ : ∃ D, m.data.length = D := ⟨_, rfl⟩
  have HD := Lib.hid (show m.data.length = D ∧ D ≤ 65536 from ⟨hD, by have := ((may_iff m).1 (get_may HG.out)).data; omega⟩)
  have HQ := Lib.hid (show g < w1.heap.size ∧ w.heap.size ≤ w1.heap.size from ⟨H1.out.1.lt, H1.out.2.1.size⟩)
  go_loopw [8] (fun i wr => ∃ (j : Nat) (l1 : List UInt8), i = .int .i64 (j : Int) ∧ j ≤ D ∧ l1.length = D ∧ Mem.Own wr w1.heap.size 5 s.da s.dk (l1.map u8v) ∧ Blk wr bx 27 (mv m s) ∧ BRow wr 5 g ck (b.map u8v) ∧ Below w.heap.size w wr) (fun i _ => D - (intOf i).toNat)
  case atStart => exact ⟨0, m.data, rfl, Nat.zero_le _, hD, H6.out.2.2.2.2.1.2.2, H6.out.1, H6.out.2.2.2.1, H6.out.2.2.1⟩
  case round =>
      clear H6
      obtain ⟨j, l1, rfl, hj, hl1, ho, hx, hB, hw⟩ := hrel
      have HX := Lib.hid (And.intro hx (And.intro hB (And.intro hw ho)))
      have HL1 := Lib.hid hl1
      have cx13 := hx.cell 13
      simp [mv] at cx13
      rw [hD] at cx13
      clear hx hB hw
      by_cases hjl : j < D
      · have hii : (j : Int) < (D : Int) := by omega
        have h0 : (0 : Int) ≤ (j : Int) := by omega
        obtain ⟨gd, e, hbg, hlt, hc', hz, hset⟩ := ho.at_ (k := j) (by rw [List.length_map]; omega)
        obtain ⟨x, hx⟩ : ∃ x, l1[j]'(by omega) = x := ⟨_, rfl⟩
        have hc : wr.cell? ⟨gd, j, none⟩ = some (.int .u8 (x.toNat : Int)) := by rw [hc', List.getElem_map, hx]; rfl
        have hw : IntKind.u8.wrap ((x.toNat : Int) + 1) = ((x + 1).toNat : Int) := by
          have := x.toNat_lt
          rw [UInt8.toNat_add]
          show ((x.toNat : Int) + 1) % 256 = (((x.toNat + 1) % 256 : Nat) : Int)
          omega
        have HR := Lib.hid (show Mem.Own (wr.setCell ⟨gd, j, none⟩ (.int .u8 ((x + 1).toNat : Int))) w1.heap.size 5 s.da s.dk ((l1.set j (x + 1)).map u8v) from by rw [List.map_set]; exact hset _)
        have hfr : Fr (fun k => k = gd) wr (wr.setCell ⟨gd, j, none⟩ (.int .u8 ((x + 1).toNat : Int))) := (Fr.refl (fun k => k = gd) wr).setCell (p := ⟨gd, j, none⟩) (fun _ => rfl) _
        have HN := Lib.hid (show Blk (wr.setCell ⟨gd, j, none⟩ (.int .u8 ((x + 1).toNat : Int))) bx 27 (mv m s) ∧ BRow (wr.setCell ⟨gd, j, none⟩ (.int .u8 ((x + 1).toNat : Int))) 5 g ck (b.map u8v) ∧ Below w.heap.size w (wr.setCell ⟨gd, j, none⟩ (.int .u8 ((x + 1).toNat : Int))) from
          ⟨HX.out.1.fr hfr (fun h => HX.out.1.ne_own ho (by decide) gd e h.symm), brow_fr HX.out.2.1 hfr (by have := HQ.out.1; omega), HX.out.2.2.1.trans (hfr.below HX.out.2.2.1.size fun k hk => by have := HQ.out.2; omega)⟩)
        rw [e] at cx13
        clear hc' hset hx hlt ho hl1 hfr hD e
        have HT := Lib.hid (And.intro cx13 (And.intro hc hz))
        have HW := Lib.hid (show ((x.toNat : Int) + 1) % 256 = ((x + 1).toNat : Int) from hw)
        have hL3 : (D : Int) ≤ 65536 := by have := HD.out.2; omega
        go_wp2_with fail
        refine wp_region_noPanic ?_
        refine wp_heldG (fun V => V.cell? ⟨bx, 13, none⟩ = some (.slice (some ⟨gd, 0, none⟩) D s.dk) ∧ V.cell? ⟨gd, j, none⟩ = some (.int .u8 (x.toNat : Int)) ∧ V.frozen? ⟨gd, j, none⟩ = false) [10] (by kernel_rfl) ?hs0 ?rg0
        case hs0 =>
          exact HT.out
        case rg0 =>
        intro hHeld
        refine wpAnyG_pure (i := 0) (oi := { dst := some 52, op := Op.fieldAddr 27 (Operand.tmp 4) 13, type := 0, pos := _, after := #[], guard := none }) (v := ?_) rfl (by kernel_rfl) (by kernel_rfl) (by kernel_rfl) (by kernel_rfl) (fun _ _ _ h => h) (Or.inl ⟨by rfl, ?_⟩) (fun _ => by assumption) ?_
        rotate_left
        · intro w hSw
          try dsimp only at hSw
          go_simp
          try with_reducible rfl
        try simp only [Act.put, List.setIfInBounds_toArray, List.set_cons_zero, List.set_cons_succ]
        refine wpAnyG_take (i := 1) (oi := { dst := some 53, op := Op.load 25 (Operand.tmp 52), type := 25, pos := _, after := #[{ on := 0, ground := Ground.data }], guard := none }) (v := ?_) rfl (by kernel_rfl) (by kernel_rfl) (by kernel_rfl) (by kernel_rfl) (fun _ _ _ h => h) (Or.inl ⟨by rfl, ?_⟩) (by assumption) ?_
        rotate_left
        · intro w hSw
          try dsimp only at hSw
          go_simp
          try with_reducible rfl
        try simp only [Act.put, List.setIfInBounds_toArray, List.set_cons_zero, List.set_cons_succ]
        refine wpAnyG_pure (i := 2) (oi := { dst := some 54, op := Op.move (Operand.tmp 8), type := 3, pos := _, after := #[], guard := none }) (v := ?_) rfl (by kernel_rfl) (by kernel_rfl) (by kernel_rfl) (by kernel_rfl) (fun _ _ _ h => h) (Or.inl ⟨by rfl, ?_⟩) (fun _ => by assumption) ?_
        rotate_left
        · intro w hSw
          try dsimp only at hSw
          go_simp
          try with_reducible rfl
        try simp only [Act.put, List.setIfInBounds_toArray, List.set_cons_zero, List.set_cons_succ]
        refine wpAnyG_pure (i := 3) (oi := { dst := some 55, op := Op.fieldAddr 27 (Operand.tmp 4) 13, type := 0, pos := _, after := #[], guard := none }) (v := ?_) rfl (by kernel_rfl) (by kernel_rfl) (by kernel_rfl) (by kernel_rfl) (fun _ _ _ h => h) (Or.inl ⟨by rfl, ?_⟩) (fun _ => by assumption) ?_
        rotate_left
        · intro w hSw
          try dsimp only at hSw
          go_simp
          try with_reducible rfl
        try simp only [Act.put, List.setIfInBounds_toArray, List.set_cons_zero, List.set_cons_succ]
        refine wpAnyG_take (i := 4) (oi := { dst := some 56, op := Op.load 25 (Operand.tmp 55), type := 25, pos := _, after := #[{ on := 3, ground := Ground.data }], guard := none }) (v := ?_) rfl (by kernel_rfl) (by kernel_rfl) (by kernel_rfl) (by kernel_rfl) (fun _ _ _ h => h) (Or.inl ⟨by rfl, ?_⟩) (by assumption) ?_
        rotate_left
        · intro w hSw
          try dsimp only at hSw
          go_simp
          try with_reducible rfl
        try simp only [Act.put, List.setIfInBounds_toArray, List.set_cons_zero, List.set_cons_succ]
        refine wpAnyG_pure (i := 5) (oi := { dst := some 57, op := Op.move (Operand.tmp 8), type := 3, pos := _, after := #[], guard := none }) (v := ?_) rfl (by kernel_rfl) (by kernel_rfl) (by kernel_rfl) (by kernel_rfl) (fun _ _ _ h => h) (Or.inl ⟨by rfl, ?_⟩) (fun _ => by assumption) ?_
        rotate_left
        · intro w hSw
          try dsimp only at hSw
          go_simp
          try with_reducible rfl
        try simp only [Act.put, List.setIfInBounds_toArray, List.set_cons_zero, List.set_cons_succ]
        refine wpAnyG_pure (i := 6) (oi := { dst := some 58, op := Op.indexAddr 25 (Operand.tmp 56) (Operand.tmp 57), type := 0, pos := _, after := #[{ on := 4, ground := Ground.data }, { on := 5, ground := Ground.data }], guard := none }) (v := ?_) rfl (by kernel_rfl) (by kernel_rfl) (by kernel_rfl) (by kernel_rfl) (fun _ _ _ h => h) (Or.inl ⟨by rfl, ?_⟩) (fun _ => by assumption) ?_
        rotate_left
        · intro w hSw
          try dsimp only at hSw
          go_simp
          try with_reducible rfl
        try simp only [Act.put, List.setIfInBounds_toArray, List.set_cons_zero, List.set_cons_succ]
        refine wpAnyG_take (i := 7) (oi := { dst := some 59, op := Op.load 5 (Operand.tmp 58), type := 5, pos := _, after := #[{ on := 6, ground := Ground.data }], guard := none }) (v := ?_) rfl (by kernel_rfl) (by kernel_rfl) (by kernel_rfl) (by kernel_rfl) (fun _ _ _ h => h) (Or.inl ⟨by rfl, ?_⟩) (by assumption) ?_
        rotate_left
        · intro w hSw
          try dsimp only at hSw
          go_simp
          try with_reducible rfl
        try simp only [Act.put, List.setIfInBounds_toArray, List.set_cons_zero, List.set_cons_succ]
        refine wpAnyG_pure (i := 8) (oi := { dst := some 60, op := Op.binOp BinOp.add 5 (Operand.tmp 59) (Operand.const (Value.int IntKind.u8 1)) 5, type := 5, pos := _, after := #[{ on := 7, ground := Ground.data }], guard := none }) (v := ?_) rfl (by kernel_rfl) (by kernel_rfl) (by kernel_rfl) (by kernel_rfl) (fun _ _ _ h => h) (Or.inl ⟨by rfl, ?_⟩) (fun _ => by assumption) ?_
        rotate_left
        · intro w hSw
          try dsimp only at hSw
          go_simp
          try with_reducible rfl
        try simp only [Act.put, List.setIfInBounds_toArray, List.set_cons_zero, List.set_cons_succ]
        refine wpAnyG_pure (i := 9) (oi := { dst := some 61, op := Op.indexAddr 25 (Operand.tmp 53) (Operand.tmp 54), type := 0, pos := _, after := #[{ on := 1, ground := Ground.data }, { on := 2, ground := Ground.data }, { on := 0, ground := Ground.phase }, { on := 1, ground := Ground.phase }, { on := 2, ground := Ground.phase }, { on := 3, ground := Ground.phase }, { on := 4, ground := Ground.phase }, { on := 5, ground := Ground.phase }, { on := 6, ground := Ground.phase }, { on := 7, ground := Ground.phase }, { on := 8, ground := Ground.phase }], guard := none }) (v := ?_) rfl (by kernel_rfl) (by kernel_rfl) (by kernel_rfl) (by kernel_rfl) (fun _ _ _ h => h) (Or.inl ⟨by rfl, ?_⟩) (fun _ => by assumption) ?_
        rotate_left
        · intro w hSw
          try dsimp only at hSw
          go_simp
          try with_reducible rfl
        try simp only [Act.put, List.setIfInBounds_toArray, List.set_cons_zero, List.set_cons_succ]
        refine wpAnyG_one (i := 10) (o := { dst := none, op := Op.store 5 (Operand.tmp 61) (Operand.tmp 60), type := 0, pos := _, after := #[{ on := 9, ground := Ground.data }, { on := 8, ground := Ground.data }, { on := 0, ground := Ground.phase }, { on := 1, ground := Ground.phase }, { on := 2, ground := Ground.phase }, { on := 3, ground := Ground.phase }, { on := 4, ground := Ground.phase }, { on := 5, ground := Ground.phase }, { on := 6, ground := Ground.phase }, { on := 7, ground := Ground.phase }, { on := 8, ground := Ground.phase }], guard := none }) (by kernel_rfl) rfl (fun K hK => ?_)
        have c0 : wr.drew.cell? ⟨gd, j, none⟩ = some (.int .u8 (x.toNat : Int)) := HT.out.2.1
        have z0 : wr.drew.frozen? ⟨gd, j, none⟩ = false := HT.out.2.2
        go_simp
        try dsimp only
        refine hK.out _ _ ?_ (fun hHeld => ?_)
        · exact fun h => (st_no (by kernel_rfl) h).elim
        clear hK K
        try simp only [Act.put, List.setIfInBounds_toArray, List.set_cons_zero, List.set_cons_succ]
        clear hHeld
        refine wpAnyG_done (by kernel_rfl) ?_ _
        refine NoPanic.normal ?_
        go_wp2_with fail
        go_roundw
        case rel =>
          rw [HW.out]
          exact ⟨j + 1, l1.set j (x + 1), by simp, by omega, by rw [List.length_set]; exact HL1.out, HR.out.keep (nextN (Mem.start _) 1), HN.out.1.keep (nextN (Mem.start _) 1), HN.out.2.1.keep (nextN (Mem.start _) 1), next HN.out.2.2 (nextN (Mem.start _) 1)⟩
        case measure => simp [intOf]; omega
      · obtain rfl : j = D := by omega
        clear hl1 ho hD
        have e1 := run_str (P := Tryd.prog) wr 25 5 Tryd.underlying25 Tryd.underlying5 (show Bytes wr wr.heap.size (some ⟨g, 0, none⟩) b from HX.out.2.1.row.cells) ck 9 Tryd.underlying9
        have e2 := run_str (P := Tryd.prog) wr 25 5 Tryd.underlying25 Tryd.underlying5 (HI.out.2.below HX.out.2.2.1) c 9 Tryd.underlying9
        rw [HL.out.1] at e1 e2
        have eb : ((str b).toList == (str b).toList) = true := by simp
        go_wp2_with fail
        refine (works_any wr (HI.out.1.keep HX.out.2.2.1)).mono ?_
        rintro e w8 ⟨rfl, hb⟩
        have H8 := Lib.hid (next HX.out.2.2.1 hb)
        clear hb
        go_wp2_with fail
        go_ret
        exact ⟨rfl, H8.out⟩
theorem gets_law (w : World) (hT : HasT w) (A : Option Addr) (b : List UInt8) (c : Nat) (hle : b.length ≤ c) (hmx : c ≤ maxLen) (hb : Bytes w w.heap.size A b) :
    Calls Tryd.prog 4 #[.slice A b.length c] w fun e w' => e = .returned (.bool true) ∧ Below w.heap.size w w' := by
  by_cases hl : b.length ≤ 5000
  · cases hg : Wi.get b with
    | none => exact gets_no w hT A b c hle hmx hb hl hg
    | some m => exact gets_yes w hT A b c hle hmx hb hl m hg
  · have HI := Lib.hid hT
    have hl5 : (5000 : Int) < ((b.length : Nat) : Int) := by omega
    have dl : decide ((5000 : Int) < ((b.length : Nat) : Int)) = true := decide_eq_true hl5
    clear hT hb hle hmx hl
    go_enter Tryd.func4, Tryd.ntmps4
    go_wp2_with fail
    refine (works_any w HI.out).mono ?_
    rintro e w1 ⟨rfl, hb1⟩
    have H1 := Lib.hid hb1
    clear hb1
    go_wp2_with fail
    go_ret
    exact ⟨rfl, H1.out⟩
end Go.Proofs.YtebdmfmadbikaaaDoor.WiW
