/- The law's helper does: a Write, a Read. -/
import Derived.Test.YtjpelifafmkdpaaDkDo
namespace Go.Proofs.Ytjpelifafmkdpaa.DkW
open Go.RowKit Go.Shelf Mem Rng
set_option linter.unusedVariables false

/-- A row of bytes of which j are turned. -/
def SpR (base : Nat) (A : Option Addr) (l : List UInt8) (j : Nat) (w : World) : Prop := ∃ zs : List Value, zs.length = j ∧ Row w base A (zs ++ (l.drop j).map u8v)
theorem SpR.start {base : Nat} {A : Option Addr} {l : List UInt8} {w : World} (h : Row w base A (l.map u8v)) : SpR base A l 0 w := ⟨[], rfl, by rw [List.drop_zero, List.nil_append]; exact h⟩
theorem SpR.at_ {base : Nat} {A : Option Addr} {l : List UInt8} {j : Nat} {w : World} (h : SpR base A l j w) (hj : j < l.length) :
    ∃ g, A = some ⟨g, 0, none⟩ ∧ base ≤ g ∧ w.cell? ⟨g, j, none⟩ = some (.int .u8 ((l[j]).toNat : Int)) ∧ w.frozen? ⟨g, j, none⟩ = false ∧ ∀ u : Value, SpR base A l (j + 1) (w.setCell ⟨g, j, none⟩ u) := by
  obtain ⟨zs, hz, hr⟩ := h
  have hlen : j < (zs ++ (l.drop j).map u8v).length := by rw [List.length_append, List.length_map, List.length_drop, hz]; omega
  obtain ⟨g, e, hb, _, hc, hf, hu⟩ := hr.at_ hlen
  refine ⟨g, e, hb, ?_, hf, fun u => ⟨zs ++ [u], by rw [List.length_append, hz]; rfl, ?_⟩⟩
  · rw [hc, List.getElem_append_right (by omega)]
    simp [hz, u8v]
  · have := hu u
    rw [List.set_append_right _ _ (by omega), hz, Nat.sub_self, ← List.getElem_cons_drop hj, List.map_cons, List.set_cons_zero] at this
    rw [List.append_assoc]; exact this
/-- Bytes appended to a new empty row. -/
theorem wpList_ownB {ops : Array Oper} {rest : List Oper} {o : Oper} {a : Act} {Q : Exit → Act → World → Prop} (w : World) (hgd : o.guard = none) (s x : Operand) (ho : o.op = .call { callee := .builtin .append, args := #[s, x], argTypes := #[23, 23] })
    (base : Nat) (hbase : base ≤ w.heap.size) (S0 : Option Addr) (hs : a.eval s = .slice S0 0 0) (hown : Mem.Own w base 5 S0 0 []) (B : Nat) (A : Option Addr) (m c : Nat) (l : List UInt8) (hx : a.eval x = .slice A m c) (hm : l.length = m) (hA : Bytes w B A l) (hmx : m ≤ 300)
    (h : ∀ A' c' w', Mem.Own w' base 5 A' c' (l.map u8v) → Below base w w' → wpList Try.prog ops Q rest (a.put o.dst (.slice A' m c')) w') : wpList Try.prog ops Q (o :: rest) a w := by
  obtain ⟨i0, hi0, hz0, hz1, hz2⟩ := info_parts u8inf
  exact wpList_app w hgd s x _ ho base 5 i0 _ 1 Try.underlying23 hi0 hz0 hz1 hz2 rfl S0 0 0 [] hs rfl hown B A c m (l.map u8v) hx (by rw [List.length_map, hm]) hA u8v_one (by rw [List.length_map, hm]; unfold maxLen; show 0 + m ≤ _; omega) (by rw [List.length_map, hm]; show (0 + m) * 1 ≤ _; omega) hbase m (Nat.zero_add _).symm fun A' c' w' h1 h2 _ _ => h A' c' w' (by simpa using h1) h2
section
variable {w0 w : World} {p q : Nat} {s : DS}
set_option maxRecDepth 100000 in
set_option maxHeartbeats 8000000 in
theorem does_read (h : LSd w0 [(p, s)] q s (fun _ => False) w) (i n : Int) (A : Option Addr) (m c : Nat) (hi : I64 i) :
    Calls Try.prog 27 #[.pointer (some ⟨p, 0, none⟩), .pointer (some ⟨q, 0, none⟩), .agg #[.int .u8 1, .int .i64 i, .int .i64 n, .slice A m c]] w (DoesOk w0 p q s) := by
  have hbx : Blk (w.alloc (.cells #[.int .u8 1, .int .i64 i, .int .i64 n, .slice A m c] 52)) w.heap.size 52 #[.int .u8 1, .int .i64 i, .int .i64 n, .slice A m c] := Blk.new w _ _
  have H1 := Lib.hid (h.keep (nextA (Mem.start w) (.cells #[.int .u8 1, .int .i64 i, .int .i64 n, .slice A m c] 52)))
  have HBX := Lib.hid hbx
  clear h hbx
  go_enter Try.func27, Try.ntmps27
  go_wp2_with fail
  refine (lread H1.out (i := 0) rfl i hi).mono ?_
  rintro e w2 ⟨B, d, rfl, hr, hb⟩
  obtain ⟨v, hv⟩ : ∃ v, (if s.may i 0 = 0 then s.N i else []) = v := ⟨_, rfl⟩
  have hbx2 := HBX.out.keep hb
  have hd1 : w2.cell? ⟨w.heap.size, 1, none⟩ = some (.int .i64 i) := hbx2.cell 1
  have HRR := Lib.hid (lrread (H1.out.keep hb) i)
  rw [hv] at hr HRR ⊢
  have hvl : v.length ≤ 256 := by
    rw [← hv]
    split
    · exact Nat.le_of_eq (H1.out.lenN (i := 0) rfl i)
    · exact Nat.zero_le _
  obtain ⟨vl, hvl2⟩ : ∃ vl, v.length = vl := ⟨_, rfl⟩
  rw [hvl2] at hvl ⊢
  obtain ⟨x, hx⟩ : ∃ x, s.may i 0 = x := ⟨_, rfl⟩
  rw [hx] at HRR ⊢
  have hcv := convB (rowB hr) vl d hvl2.symm
  have H2 := Lib.hid ((H1.out.more (Z := fun k => B = some ⟨k, 0, none⟩ ∧ 0 < v.length) hb (fun k hk => by
    obtain ⟨g, cur, T, fz, e, hg, hh, _⟩ := hr (by rw [List.length_map]; exact hk.2)
    rw [hk.1] at e; injection e with e; injection e with e; subst e
    exact ⟨hg, (Array.getElem?_eq_some_iff.1 hh).1⟩)).less (Z := fun k => B = some ⟨k, 0, none⟩ ∧ 0 < v.length) (fun k hk => .inr hk))
  have HR := Lib.hid (And.intro (SpR.start hr) hvl2)
  obtain ⟨sv, hsv⟩ : ∃ sv, str v = sv := ⟨_, rfl⟩
  rw [hsv] at HRR hcv
  have hvi : (vl : Int) ≤ 256 := by omega
  clear hv hr hb hbx2 hvl2 hx hsv hvl
  go_wp2_with fail
  refine HRR.out.mono ?_
  rintro e w' ⟨rfl, rfl⟩
  go_wp2_with fail
  obtain ⟨base, hbase⟩ : ∃ base, (w.alloc (.cells #[.int .u8 1, .int .i64 i, .int .i64 n, .slice A m c] 52)).heap.size = base := ⟨_, rfl⟩
  rw [hbase] at HR
  clear hbase hd1 hcv
  go_loopw [15] (fun i wr => ∃ j : Nat, i = .int .i64 (j : Int) ∧ j ≤ vl ∧ SpR base B v j wr ∧ LSd w0 [(p, s)] q s (fun k => B = some ⟨k, 0, none⟩ ∧ 0 < v.length) wr) (fun i _ => vl - (intOf i).toNat)
  case atStart => exact ⟨0, rfl, Nat.zero_le _, HR.out.1, H2.out⟩
  case round =>
    obtain ⟨j, rfl, hj, hS, hL⟩ := hrel
    obtain ⟨w3, rfl⟩ : ∃ w3 : World, w3 = wr := ⟨_, rfl⟩
    have HL := Lib.hid hL
    clear hL
    have hj0 : (0 : Int) ≤ (j : Int) := by omega
    by_cases hjv : j < vl
    · have hj1 : (j : Int) < (vl : Int) := by omega
      obtain ⟨g, rfl, hg, hc, hz, hu⟩ := hS.at_ (by rw [HR.out.2]; exact hjv)
      have HU := Lib.hid hu
      obtain ⟨y, hy⟩ : ∃ y, (v[j]'(by rw [HR.out.2]; exact hjv)).toNat = y := ⟨_, rfl⟩
      have hy255 : (y : Int) ≤ 255 := by have := (v[j]'(by rw [HR.out.2]; exact hjv)).toNat_lt; omega
      have hy0 : (0 : Int) ≤ (y : Int) := by omega
      rw [hy] at hc
      clear hS hu hy hg
      go_wp2_with fail
      go_roundw
      case rel => exact ⟨j + 1, rfl, hjv, HU.out _, HL.out.other ((Fr.refl _ w3).setCell (p := ⟨g, j, none⟩) (fun _ => ⟨rfl, by rw [HR.out.2]; omega⟩) _)⟩
      case measure => simp [intOf]; omega
    · obtain rfl : vl = j := by omega
      clear hS
      go_wp2_with fail
      go_ret
      exact ⟨rfl, s, HL.out.less (fun _ h => h.elim), Nat.le_succ _⟩
set_option maxRecDepth 100000 in
set_option maxHeartbeats 8000000 in
theorem does_write (h : LSd w0 [(p, s)] q s (fun _ => False) w) (hs : s.steps + 1 ≤ 256 ^ 3) (i n : Int) (A : Option Addr) (l : List UInt8) (m c : Nat) (hx : Bytes w0 w0.heap.size A l) (hm : l.length = m) (hlen : m ≤ 300) (hi : I64 i) :
    Calls Try.prog 27 #[.pointer (some ⟨p, 0, none⟩), .pointer (some ⟨q, 0, none⟩), .agg #[.int .u8 0, .int .i64 i, .int .i64 n, .slice A m c]] w (DoesOk w0 p q s) := by
  obtain ⟨i0, hi0, hz0, hz1, hz2⟩ := info_parts u8inf
  have hbx : Blk (w.alloc (.cells #[.int .u8 0, .int .i64 i, .int .i64 n, .slice A m c] 52)) w.heap.size 52 #[.int .u8 0, .int .i64 i, .int .i64 n, .slice A m c] := Blk.new w _ _
  have hb0 := nextA (Mem.start w) (.cells #[.int .u8 0, .int .i64 i, .int .i64 n, .slice A m c] 52)
  have hxb := (hx.below h.below).below ((hb0.mono h.below.size))
  have H1 := Lib.hid ((h.more (Z := fun k => k = w.heap.size) hb0 (fun k hk => by subst hk; exact ⟨Nat.le_refl _, by rw [World.size_alloc]; exact Nat.lt_succ_self _⟩)).less (Z := fun k => k = w.heap.size) (fun k hk => .inr hk))
  have HX := Lib.hid (And.intro hx hm)
  have HS := Lib.hid hs
  have HBX := Lib.hid hbx
  have hml : m = (l.map u8v).length := by rw [List.length_map, hm]
  obtain ⟨w1, hw1⟩ : ∃ w1 : World, w1 = w.alloc (.cells #[.int .u8 0, .int .i64 i, .int .i64 n, .slice A m c] 52) := ⟨_, rfl⟩
  have HML := Lib.hid hml
  have HXB := Lib.hid hxb
  have HI0 := Lib.hid (And.intro hi0 (And.intro hz0 (And.intro hz1 hz2)))
  have hm63 : (l.map u8v).length ≤ 300 := by rw [List.length_map, hm]; exact hlen
  have HM63 := Lib.hid hm63
  have HSZ := Lib.hid (show w0.heap.size ≤ (w.alloc (.cells #[.int .u8 0, .int .i64 i, .int .i64 n, .slice A m c] 52)).heap.size from Nat.le_trans h.below.size hb0.size)
  have HO0 := Lib.hid (show Mem.Own ((w.alloc (.cells #[.int .u8 0, .int .i64 i, .int .i64 n, .slice A m c] 52)).alloc (.cells #[] 5)) (w.heap.size + 1) 5 (some ⟨w.heap.size + 1, 0, none⟩) 0 [] from by
    have := own_made (w.alloc (.cells #[.int .u8 0, .int .i64 i, .int .i64 n, .slice A m c] 52)) #[] 5 (by simp) (Nat.le_refl _)
    rw [World.size_alloc] at this
    exact this)
  clear h hbx hs hx hm hml hxb hb0 hi0 hz0 hz1 hz2 hm63 hw1
  go_enter Try.func27, Try.ntmps27
  go_wp2_with ((with_reducible show wpList _ _ _ ((⟨some 23, _, _, _, _, _⟩ : Oper) :: _) _ _); refine wpList_ownB _ rfl _ _ rfl (w.heap.size + 1) (by rw [World.size_alloc, World.size_alloc]; omega) _ rfl HO0.out w0.heap.size A m c l rfl HX.out.2 (HXB.out.below ((nextA (Mem.start _) _).mono HSZ.out)) hlen ?_; intro A1 c1 w3 ho hb; have HO := Lib.hid (And.intro ho hb); clear ho hb)
  have hb3 : Below (w.alloc (.cells #[.int .u8 0, .int .i64 i, .int .i64 n, .slice A m c] 52)).heap.size (w.alloc (.cells #[.int .u8 0, .int .i64 i, .int .i64 n, .slice A m c] 52)) w3 := (nextA (Mem.start _) (.cells #[] 5)).trans (HO.out.2.mono (by rw [World.size_alloc]; exact Nat.le_refl _))
  have hx3 := HBX.out.keep hb3
  have HL3 := Lib.hid ((H1.out.more (Z := fun k => A1 = some ⟨k, 0, none⟩) hb3 (fun k hk => by
    rcases HO.out.1.form with ⟨e, _⟩ | ⟨g, e, h1, h2, _⟩
    · rw [e] at hk; cases hk
    · rw [e] at hk; injection hk with hk; injection hk with hk; subst hk
      exact ⟨by rw [World.size_alloc]; exact h1, h2⟩)).keep (nextN (Mem.start w3) 1))
  have hd1 : w3.drew.cell? ⟨w.heap.size, 1, none⟩ = some (.int .i64 i) := hx3.cell 1
  have hd3 : w3.drew.cell? ⟨w.heap.size, 3, none⟩ = some (.slice A m c) := hx3.cell 3
  have HR3 := Lib.hid (show Row w3.drew (w.heap.size + 1) A1 (l.map u8v) from HO.out.1.row.keep (nextN (Mem.start w3) 1))
  have HT := Lib.hid (show w3.drew.cell? ⟨w.heap.size, 1, none⟩ = some (.int .i64 i) ∧ w3.drew.cell? ⟨w.heap.size, 3, none⟩ = some (.slice A m c) ∧ Bytes w3.drew w0.heap.size A l ∧ Row w3.drew (w.heap.size + 1) A1 (l.map u8v) from ⟨hd1, hd3, HX.out.1.below HL3.out.below, HR3.out⟩)
  have HW := Lib.hid (lwrite (w := w3.drew) HL3.out (i := 0) rfl i hi A1 l m c1 HX.out.2 (rowB HR3.out) HS.out)
  obtain ⟨t, ht⟩ : ∃ t, (s.write i l).1 = t := ⟨_, rfl⟩
  obtain ⟨v, hv⟩ : ∃ v, (s.write i l).2 = v := ⟨_, rfl⟩
  have HTV := Lib.hid (And.intro ht hv)
  rw [ht, hv] at HW
  clear hb3 hx3 hd1 hd3 ht hv
  --HELD do4
  refine wp_region_noPanic ?_
  refine wp_heldG (fun w' => w'.cell? ⟨w.heap.size, 1, none⟩ = some (.int .i64 i) ∧ w'.cell? ⟨w.heap.size, 3, none⟩ = some (.slice A m c) ∧ Bytes w' w0.heap.size A l ∧ Row w' (w.heap.size + 1) A1 (l.map u8v)) [] (by kernel_rfl) ?hs0 ?rg0
  case hs0 =>
    exact HT.out
  case rg0 =>
  intro hHeld
  refine wpAnyG_pure (i := 0) (oi := { dst := some 24, op := Op.move (Operand.tmp 0), type := 28, pos := _, after := #[], guard := none }) (v := ?_) rfl (by kernel_rfl) (by kernel_rfl) (by kernel_rfl) (by kernel_rfl) (fun _ _ _ h => h) (Or.inl ⟨by rfl, ?_⟩) (fun _ => by assumption) ?_
  rotate_left
  · intro w hSw
    try dsimp only at hSw
    go_simp
    try with_reducible rfl
  try simp only [Act.put, List.setIfInBounds_toArray, List.set_cons_zero, List.set_cons_succ]
  refine wpAnyG_pure (i := 1) (oi := { dst := some 25, op := Op.fieldAddr 52 (Operand.tmp 5) 1, type := 0, pos := _, after := #[], guard := none }) (v := ?_) rfl (by kernel_rfl) (by kernel_rfl) (by kernel_rfl) (by kernel_rfl) (fun _ _ _ h => h) (Or.inl ⟨by rfl, ?_⟩) (fun _ => by assumption) ?_
  rotate_left
  · intro w hSw
    try dsimp only at hSw
    go_simp
    try with_reducible rfl
  try simp only [Act.put, List.setIfInBounds_toArray, List.set_cons_zero, List.set_cons_succ]
  refine wpAnyG_take (i := 2) (oi := { dst := some 26, op := Op.load 3 (Operand.tmp 25), type := 3, pos := _, after := #[{ on := 1, ground := Ground.data }], guard := none }) (v := ?_) rfl (by kernel_rfl) (by kernel_rfl) (by kernel_rfl) (by kernel_rfl) (fun _ _ _ h => h) (Or.inl ⟨by rfl, ?_⟩) (by assumption) ?_
  rotate_left
  · intro w hSw
    try dsimp only at hSw
    go_simp
    try with_reducible rfl
  try simp only [Act.put, List.setIfInBounds_toArray, List.set_cons_zero, List.set_cons_succ]
  refine wpAnyG_pure (i := 3) (oi := { dst := some 27, op := Op.move (Operand.tmp 7), type := 23, pos := _, after := #[], guard := none }) (v := ?_) rfl (by kernel_rfl) (by kernel_rfl) (by kernel_rfl) (by kernel_rfl) (fun _ _ _ h => h) (Or.inl ⟨by rfl, ?_⟩) (fun _ => by assumption) ?_
  rotate_left
  · intro w hSw
    try dsimp only at hSw
    go_simp
    try with_reducible rfl
  try simp only [Act.put, List.setIfInBounds_toArray, List.set_cons_zero, List.set_cons_succ]
  refine wpAnyG_pure (i := 5) (oi := { dst := some 29, op := Op.move (Operand.tmp 1), type := 49, pos := _, after := #[], guard := none }) (v := ?_) rfl (by kernel_rfl) (by kernel_rfl) (by kernel_rfl) (by kernel_rfl) (fun _ _ _ h => h) (Or.inl ⟨by rfl, ?_⟩) (fun _ => by assumption) ?_
  rotate_left
  · intro w hSw
    try dsimp only at hSw
    go_simp
    try with_reducible rfl
  try simp only [Act.put, List.setIfInBounds_toArray, List.set_cons_zero, List.set_cons_succ]
  refine wpAnyG_pure (i := 6) (oi := { dst := some 30, op := Op.fieldAddr 52 (Operand.tmp 5) 1, type := 0, pos := _, after := #[], guard := none }) (v := ?_) rfl (by kernel_rfl) (by kernel_rfl) (by kernel_rfl) (by kernel_rfl) (fun _ _ _ h => h) (Or.inl ⟨by rfl, ?_⟩) (fun _ => by assumption) ?_
  rotate_left
  · intro w hSw
    try dsimp only at hSw
    go_simp
    try with_reducible rfl
  try simp only [Act.put, List.setIfInBounds_toArray, List.set_cons_zero, List.set_cons_succ]
  refine wpAnyG_take (i := 7) (oi := { dst := some 31, op := Op.load 3 (Operand.tmp 30), type := 3, pos := _, after := #[{ on := 6, ground := Ground.data }], guard := none }) (v := ?_) rfl (by kernel_rfl) (by kernel_rfl) (by kernel_rfl) (by kernel_rfl) (fun _ _ _ h => h) (Or.inl ⟨by rfl, ?_⟩) (by assumption) ?_
  rotate_left
  · intro w hSw
    try dsimp only at hSw
    go_simp
    try with_reducible rfl
  try simp only [Act.put, List.setIfInBounds_toArray, List.set_cons_zero, List.set_cons_succ]
  refine wpAnyG_pure (i := 8) (oi := { dst := some 32, op := Op.fieldAddr 52 (Operand.tmp 5) 3, type := 0, pos := _, after := #[], guard := none }) (v := ?_) rfl (by kernel_rfl) (by kernel_rfl) (by kernel_rfl) (by kernel_rfl) (fun _ _ _ h => h) (Or.inl ⟨by rfl, ?_⟩) (fun _ => by assumption) ?_
  rotate_left
  · intro w hSw
    try dsimp only at hSw
    go_simp
    try with_reducible rfl
  try simp only [Act.put, List.setIfInBounds_toArray, List.set_cons_zero, List.set_cons_succ]
  refine wpAnyG_take (i := 9) (oi := { dst := some 33, op := Op.load 23 (Operand.tmp 32), type := 23, pos := _, after := #[{ on := 8, ground := Ground.data }], guard := none }) (v := ?_) rfl (by kernel_rfl) (by kernel_rfl) (by kernel_rfl) (by kernel_rfl) (fun _ _ _ h => h) (Or.inl ⟨by rfl, ?_⟩) (by assumption) ?_
  rotate_left
  · intro w hSw
    try dsimp only at hSw
    go_simp
    try with_reducible rfl
  try simp only [Act.put, List.setIfInBounds_toArray, List.set_cons_zero, List.set_cons_succ]
  refine wpAnyG_take (i := 10) (oi := { dst := some 34, op := Op.convert 23 9 (Operand.tmp 33), type := 9, pos := _, after := #[{ on := 9, ground := Ground.data }], guard := none }) (v := ?_) rfl (by kernel_rfl) (by kernel_rfl) (by kernel_rfl) (by kernel_rfl) (fun _ _ _ h => h) (Or.inl ⟨by rfl, ?_⟩) (by assumption) ?_
  rotate_left
  · intro w hSw
    try dsimp only at hSw
    have hcv := convB hSw.2.2.1 m c HX.out.2.symm
    go_simp
    try with_reducible rfl
  try simp only [Act.put, List.setIfInBounds_toArray, List.set_cons_zero, List.set_cons_succ]
  refine wpAnyG_one (i := 4) (o := { dst := some 28, op := Op.call { callee := Callee.value (Operand.func 23), args := #[Operand.tmp 24, Operand.tmp 26, Operand.tmp 27], argTypes := #[28, 3, 23] }, type := 31, pos := _, after := #[{ on := 0, ground := Ground.data }, { on := 2, ground := Ground.data }, { on := 3, ground := Ground.data }], guard := none }) (by kernel_rfl) rfl (fun K hK => ?_)
  go_simp
  refine HW.out.mono ?_
  rintro e w4 ⟨rfl, h4, f4⟩
  have H4 := Lib.hid (And.intro (show LSd w0 [(p, t)] q s (fun k => k = w.heap.size ∨ A1 = some ⟨k, 0, none⟩) w4 from h4) f4)
  clear h4 f4
  try dsimp only
  refine hK.out _ _ ?_ (fun hHeld => ?_)
  · intro _
    try dsimp only
    exact ⟨cellFr H4.out.2 hHeld.1 (fun h => h (.inl rfl)), cellFr H4.out.2 hHeld.2.1 (fun h => h (.inl rfl)), HX.out.1.below H4.out.1.below, Row.frX hHeld.2.2.2 H4.out.2 fun g e _ h => h (.inr e)⟩
  clear hK K
  try simp only [Act.put, List.setIfInBounds_toArray, List.set_cons_zero, List.set_cons_succ]
  have hHeld := hHeld (by kernel_rfl)
  refine wpAnyG_one (i := 11) (o := { dst := some 35, op := Op.call { callee := Callee.value (Operand.func 36), args := #[Operand.tmp 29, Operand.tmp 31, Operand.tmp 34], argTypes := #[49, 3, 9] }, type := 31, pos := _, after := #[{ on := 5, ground := Ground.data }, { on := 7, ground := Ground.data }, { on := 10, ground := Ground.data }, { on := 4, ground := Ground.chain }], guard := none }) (by kernel_rfl) rfl (fun K hK => ?_)
  have hrw := lrwrite H4.out.1 i l HS.out (by rw [HX.out.2]; omega)
  rw [HTV.out.1, HTV.out.2] at hrw
  go_simp
  refine hrw.mono ?_
  clear hrw
  rintro e w5 ⟨rfl, h5, f5⟩
  have H5 := Lib.hid (And.intro h5 (Row.frX hHeld.2.2.2 f5 fun g e _ h => h (.inr e)))
  have HF5 := Lib.hid f5
  clear h5 f5
  try dsimp only
  refine hK.out _ _ ?_ (fun hHeld => ?_)
  · intro _
    try dsimp only
    exact ⟨cellFr HF5.out hHeld.1 (fun h => h (.inl rfl)), cellFr HF5.out hHeld.2.1 (fun h => h (.inl rfl)), HX.out.1.below H5.out.1.below, H5.out.2⟩
  clear hK K
  try simp only [Act.put, List.setIfInBounds_toArray, List.set_cons_zero, List.set_cons_succ]
  have hHeld := hHeld (by kernel_rfl)
  refine wpAnyG_pure (i := 12) (oi := { dst := some 36, op := Op.binOp BinOp.eql 31 (Operand.tmp 28) (Operand.tmp 35) 31, type := 4, pos := _, after := #[{ on := 4, ground := Ground.data }, { on := 11, ground := Ground.data }], guard := none }) (v := ?_) rfl (by kernel_rfl) (by kernel_rfl) (by kernel_rfl) (by kernel_rfl) (fun _ _ _ h => h) (Or.inl ⟨by rfl, ?_⟩) (fun _ => by assumption) ?_
  rotate_left
  · intro w hSw
    try dsimp only at hSw
    go_simp
    try with_reducible rfl
  try simp only [Act.put, List.setIfInBounds_toArray, List.set_cons_zero, List.set_cons_succ]
  refine wpAnyG_pure (i := 13) (oi := { dst := some 37, op := Op.move (Operand.tmp 36), type := 4, pos := _, after := #[{ on := 12, ground := Ground.data }, { on := 11, ground := Ground.chain }], guard := none }) (v := ?_) rfl (by kernel_rfl) (by kernel_rfl) (by kernel_rfl) (by kernel_rfl) (fun _ _ _ h => h) (Or.inl ⟨by rfl, ?_⟩) (fun _ => by assumption) ?_
  rotate_left
  · intro w hSw
    try dsimp only at hSw
    go_simp
    try with_reducible rfl
  try simp only [Act.put, List.setIfInBounds_toArray, List.set_cons_zero, List.set_cons_succ]
  refine wpAnyG_pure (i := 14) (oi := { dst := some 38, op := Op.move (Operand.tmp 7), type := 23, pos := _, after := #[{ on := 13, ground := Ground.guard }], guard := some (13, true) }) (v := ?_) rfl (by kernel_rfl) (by kernel_rfl) (by kernel_rfl) (by kernel_rfl) (fun _ _ _ h => h) (Or.inl ⟨by rfl, ?_⟩) (fun _ => by assumption) ?_
  rotate_left
  · intro w hSw
    try dsimp only at hSw
    go_simp
    try with_reducible rfl
  try simp only [Act.put, List.setIfInBounds_toArray, List.set_cons_zero, List.set_cons_succ]
  refine wpAnyG_take (i := 15) (oi := { dst := some 39, op := Op.convert 23 9 (Operand.tmp 38), type := 9, pos := _, after := #[{ on := 14, ground := Ground.data }, { on := 13, ground := Ground.guard }], guard := some (13, true) }) (v := ?_) rfl (by kernel_rfl) (by kernel_rfl) (by kernel_rfl) (by kernel_rfl) (fun _ _ _ h => h) (Or.inl ⟨by rfl, ?_⟩) (by assumption) ?_
  rotate_left
  · intro w hSw
    try dsimp only at hSw
    have hcv := convB (rowB hSw.2.2.2) m c1 HX.out.2.symm
    go_simp
    try with_reducible rfl
  try simp only [Act.put, List.setIfInBounds_toArray, List.set_cons_zero, List.set_cons_succ]
  refine wpAnyG_pure (i := 16) (oi := { dst := some 40, op := Op.fieldAddr 52 (Operand.tmp 5) 3, type := 0, pos := _, after := #[{ on := 13, ground := Ground.guard }], guard := some (13, true) }) (v := ?_) rfl (by kernel_rfl) (by kernel_rfl) (by kernel_rfl) (by kernel_rfl) (fun _ _ _ h => h) (Or.inl ⟨by rfl, ?_⟩) (fun _ => by assumption) ?_
  rotate_left
  · intro w hSw
    try dsimp only at hSw
    go_simp
    try with_reducible rfl
  try simp only [Act.put, List.setIfInBounds_toArray, List.set_cons_zero, List.set_cons_succ]
  refine wpAnyG_take (i := 17) (oi := { dst := some 41, op := Op.load 23 (Operand.tmp 40), type := 23, pos := _, after := #[{ on := 16, ground := Ground.data }, { on := 13, ground := Ground.guard }], guard := some (13, true) }) (v := ?_) rfl (by kernel_rfl) (by kernel_rfl) (by kernel_rfl) (by kernel_rfl) (fun _ _ _ h => h) (Or.inl ⟨by rfl, ?_⟩) (by assumption) ?_
  rotate_left
  · intro w hSw
    try dsimp only at hSw
    go_simp
    try with_reducible rfl
  try simp only [Act.put, List.setIfInBounds_toArray, List.set_cons_zero, List.set_cons_succ]
  refine wpAnyG_take (i := 18) (oi := { dst := some 42, op := Op.convert 23 9 (Operand.tmp 41), type := 9, pos := _, after := #[{ on := 17, ground := Ground.data }, { on := 13, ground := Ground.guard }], guard := some (13, true) }) (v := ?_) rfl (by kernel_rfl) (by kernel_rfl) (by kernel_rfl) (by kernel_rfl) (fun _ _ _ h => h) (Or.inl ⟨by rfl, ?_⟩) (by assumption) ?_
  rotate_left
  · intro w hSw
    try dsimp only at hSw
    have hcv := convB hSw.2.2.1 m c HX.out.2.symm
    go_simp
    try with_reducible rfl
  try simp only [Act.put, List.setIfInBounds_toArray, List.set_cons_zero, List.set_cons_succ]
  refine wpAnyG_pure (i := 19) (oi := { dst := some 43, op := Op.binOp BinOp.eql 9 (Operand.tmp 39) (Operand.tmp 42) 9, type := 4, pos := _, after := #[{ on := 15, ground := Ground.data }, { on := 18, ground := Ground.data }, { on := 13, ground := Ground.guard }], guard := some (13, true) }) (v := ?_) rfl (by kernel_rfl) (by kernel_rfl) (by kernel_rfl) (by kernel_rfl) (fun _ _ _ h => h) (Or.inl ⟨by rfl, ?_⟩) (fun _ => by assumption) ?_
  rotate_left
  · intro w hSw
    try dsimp only at hSw
    go_simp
    try with_reducible rfl
  try simp only [Act.put, List.setIfInBounds_toArray, List.set_cons_zero, List.set_cons_succ]
  refine wpAnyG_pure (i := 20) (oi := { dst := some 44, op := Op.pick (Operand.tmp 37) (Operand.tmp 43) (Operand.const (Value.bool false)), type := 4, pos := _, after := #[{ on := 13, ground := Ground.data }, { on := 19, ground := Ground.data }], guard := none }) (v := ?_) rfl (by kernel_rfl) (by kernel_rfl) (by kernel_rfl) (by kernel_rfl) (fun _ _ _ h => h) (Or.inl ⟨by rfl, ?_⟩) (fun _ => by assumption) ?_
  rotate_left
  · intro w hSw
    try dsimp only at hSw
    go_simp
    try with_reducible rfl
  try simp only [Act.put, List.setIfInBounds_toArray, List.set_cons_zero, List.set_cons_succ]
  refine wpAnyG_pure (i := 21) (oi := { dst := some 8, op := Op.assign (Operand.tmp 44), type := 4, pos := _, after := #[{ on := 20, ground := Ground.data }, { on := 13, ground := Ground.chain }, { on := 0, ground := Ground.phase }, { on := 1, ground := Ground.phase }, { on := 2, ground := Ground.phase }, { on := 3, ground := Ground.phase }, { on := 4, ground := Ground.phase }, { on := 5, ground := Ground.phase }, { on := 6, ground := Ground.phase }, { on := 7, ground := Ground.phase }, { on := 8, ground := Ground.phase }, { on := 9, ground := Ground.phase }, { on := 10, ground := Ground.phase }, { on := 11, ground := Ground.phase }, { on := 12, ground := Ground.phase }, { on := 13, ground := Ground.phase }, { on := 14, ground := Ground.phase }, { on := 15, ground := Ground.phase }, { on := 16, ground := Ground.phase }, { on := 17, ground := Ground.phase }, { on := 18, ground := Ground.phase }, { on := 19, ground := Ground.phase }, { on := 20, ground := Ground.phase }], guard := none }) (v := ?_) rfl (by kernel_rfl) (by kernel_rfl) (by kernel_rfl) (by kernel_rfl) (fun _ _ _ h => h) (Or.inl ⟨by rfl, ?_⟩) (fun _ => by assumption) ?_
  rotate_left
  · intro w hSw
    try dsimp only at hSw
    go_simp
    try with_reducible rfl
  try simp only [Act.put, List.setIfInBounds_toArray, List.set_cons_zero, List.set_cons_succ]
  refine wpAnyG_done (by kernel_rfl) ?_ _
  refine NoPanic.normal ?_
  --END do4
  go_wp2_with fail
  go_loopw [9] (fun i wr => ∃ j : Nat, i = .int .i64 (j : Int) ∧ j ≤ m ∧ SpR (w.heap.size + 1) A1 l j wr ∧ LSd w0 [(p, t)] q t (fun k => k = w.heap.size ∨ A1 = some ⟨k, 0, none⟩) wr) (fun i _ => m - (intOf i).toNat)
  case atStart => exact ⟨0, rfl, Nat.zero_le _, SpR.start H5.out.2, H5.out.1⟩
  case round =>
    obtain ⟨j, rfl, hj, hS, hL⟩ := hrel
    obtain ⟨w6, rfl⟩ : ∃ w6 : World, w6 = wr := ⟨_, rfl⟩
    have HL := Lib.hid hL
    clear hL
    have hj0 : (0 : Int) ≤ (j : Int) := by omega
    by_cases hjv : j < m
    · have hj1 : (j : Int) < (m : Int) := by omega
      obtain ⟨g, rfl, hg, hc, hz, hu⟩ := hS.at_ (by rw [HX.out.2]; exact hjv)
      have HU := Lib.hid hu
      obtain ⟨y, hy⟩ : ∃ y, (l[j]'(by rw [HX.out.2]; exact hjv)).toNat = y := ⟨_, rfl⟩
      have hy255 : (y : Int) ≤ 255 := by have := (l[j]'(by rw [HX.out.2]; exact hjv)).toNat_lt; omega
      have hy0 : (0 : Int) ≤ (y : Int) := by omega
      rw [hy] at hc
      clear hS hu hy hg
      go_wp2_with fail
      go_roundw
      case rel => exact ⟨j + 1, rfl, hjv, HU.out _, HL.out.other ((Fr.refl _ w6).setCell (p := ⟨g, j, none⟩) (fun _ => .inr rfl) _)⟩
      case measure => simp [intOf]; omega
    · obtain rfl : m = j := by omega
      clear hS
      go_wp2_with fail
      go_ret
      exact ⟨rfl, t, HL.out.less (fun _ h => h.elim), by rw [← HTV.out.1]; exact DS.write_steps s i l⟩
end
theorem does_any {w0 w : World} {p q : Nat} {s : DS} (h : LSd w0 [(p, s)] q s (fun _ => False) w) (hs : s.steps + 1 ≤ 256 ^ 3) (x : Open.OneD) (hx : Bytes w0 w0.heap.size x.A x.b) (hlen : x.b.length ≤ 300) (hi : I64 x.i) (hn : I64 x.n) (m : Nat) (hm : x.b.length = m) :
    Calls Try.prog 27 #[.pointer (some ⟨p, 0, none⟩), .pointer (some ⟨q, 0, none⟩), .agg #[.int .u8 (x.k.toNat : Int), .int .i64 x.i, .int .i64 x.n, .slice x.A m x.c]] w (DoesOk w0 p q s) := by
  obtain ⟨kk, i, n, A, l, c⟩ := x
  dsimp only at hx hlen hi hn hm ⊢
  have hk := kk.toNat_lt
  have hr : kk.toNat = 0 ∨ kk.toNat = 1 ∨ 2 ≤ kk.toNat := by omega
  rcases hr with h0 | h0 | h0
  · rw [h0]; exact does_write h hs i n A l m c hx hm (by omega) hi
  · rw [h0]; exact does_read h i n A m c hi
  · exact does_rest h hs kk.toNat i n A l m c hx hm (by omega) hi hn h0 (by omega)
end Go.Proofs.Ytjpelifafmkdpaa.DkW
