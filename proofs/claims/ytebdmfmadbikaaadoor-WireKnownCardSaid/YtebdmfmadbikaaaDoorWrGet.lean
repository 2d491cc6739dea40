/- Package wire's Get, where the bytes are a message whose fields have one cell each. Printed by genwgt.py (raw numbers of the seat). -/
import Derived.Test.YtebdmfmadbikaaaDoorWrGetF
import Derived.RangeFuncLeaves
import Derived.RecoverIn
namespace Go.Proofs.YtebdmfmadbikaaaDoor.WiW
open Go.RowKit Go.Shelf Mem Fds FdW Wi Rng
set_option linter.unusedVariables false
set_option linter.unusedSimpArgs false
attribute [local go_sem] Oper.semAt_some wide_fn

def s0 : Sl := ⟨none, 0, none, 0, none, 0⟩
theorem set14m {w : World} {g : Nat} {T : TypeId} {m : Msg} {s : Sl} (h : Blk w g T (mv m s)) : Blk (w.setCells g 0 (mv m s).toList) g T (mv m s) := by
  have h4 := blk_setCells (mv m s).toList 0 w _ h
  have e : setAll (mv m s) 0 (mv m s).toList = mv m s := by simp [mv, setAll]
  rw [e] at h4; exact h4
theorem rfs_app : ∀ (pre r : List Nat) (m : Msg) (l : List UInt8), rfs (pre ++ r) m l = (rfs pre m l).bind fun p => rfs r p.1 p.2
  | [], r, m, l => rfl
  | f :: pre, r, m, l => by
    show (rf m l f).bind (fun p => rfs (pre ++ r) p.1 p.2) = ((rf m l f).bind fun p => rfs pre p.1 p.2).bind _
    cases rf m l f with
    | none => rfl
    | some x => simp only [Option.bind_some]; exact rfs_app pre r _ _
theorem rfs_next {pre r : List Nat} {f : Nat} {m m1 : Msg} {l l1 : List UInt8} (h : rfs (pre ++ f :: r) m l = some (m1, l1)) {m2 : Msg} {l2 : List UInt8} (h2 : rfs pre m l = some (m2, l2)) :
    ∃ m3 l3, rf m2 l2 f = some (m3, l3) ∧ rfs (pre ++ [f]) m l = some (m3, l3) := by
  rw [rfs_app, h2, Option.bind_some] at h
  have h : (rf m2 l2 f).bind (fun p => rfs r p.1 p.2) = some (m1, l1) := h
  cases h3 : rf m2 l2 f with
  | none => rw [h3] at h; cases h
  | some x => exact ⟨x.1, x.2, rfl, by rw [rfs_app, h2, Option.bind_some]; show (rf m2 l2 f).bind _ = _; rw [h3]; rfl⟩
theorem rf_small {m m1 : Msg} {l l1 : List UInt8} {f : Nat} (hf : f < 8) (h : rf m l f = some (m1, l1)) : m1.kind = m.kind ∧ m1.ids = m.ids ∧ m1.nodes = m.nodes ∧ m1.data = m.data := by
  have : f = 0 ∨ f = 1 ∨ f = 2 ∨ f = 3 ∨ f = 4 ∨ f = 5 ∨ f = 6 ∨ f = 7 := by omega
  rcases this with rfl | rfl | rfl | rfl | rfl | rfl | rfl | rfl
  · simp only [rf, Option.map_eq_some_iff] at h; obtain ⟨a, _, h⟩ := h; injection h with h _; subst h; exact ⟨rfl, rfl, rfl, rfl⟩
  · simp only [rf, Option.map_eq_some_iff] at h; obtain ⟨a, _, h⟩ := h; injection h with h _; subst h; exact ⟨rfl, rfl, rfl, rfl⟩
  · simp only [rf, Option.map_eq_some_iff] at h; obtain ⟨a, _, h⟩ := h; injection h with h _; subst h; exact ⟨rfl, rfl, rfl, rfl⟩
  · simp only [rf, Option.map_eq_some_iff] at h; obtain ⟨a, _, h⟩ := h; injection h with h _; subst h; exact ⟨rfl, rfl, rfl, rfl⟩
  · simp only [rf, Option.map_eq_some_iff] at h; obtain ⟨a, _, h⟩ := h; injection h with h _; subst h; exact ⟨rfl, rfl, rfl, rfl⟩
  · simp only [rf, Option.map_eq_some_iff] at h; obtain ⟨a, _, h⟩ := h; injection h with h _; subst h; exact ⟨rfl, rfl, rfl, rfl⟩
  · simp only [rf, Option.map_eq_some_iff] at h; obtain ⟨a, _, h⟩ := h; injection h with h _; subst h; exact ⟨rfl, rfl, rfl, rfl⟩
  · simp only [rf, Option.bind_eq_some_iff] at h; obtain ⟨a, _, h⟩ := h; split at h
    · injection h with h; injection h with h _; subst h; exact ⟨rfl, rfl, rfl, rfl⟩
    · cases h
theorem rfs_small : ∀ {fs : List Nat} {m m1 : Msg} {l l1 : List UInt8}, (∀ f ∈ fs, f < 8) → rfs fs m l = some (m1, l1) → m1.kind = m.kind ∧ m1.ids = m.ids ∧ m1.nodes = m.nodes ∧ m1.data = m.data
  | [], m, m1, l, l1, _, h => by injection h with h; injection h with h _; subst h; exact ⟨rfl, rfl, rfl, rfl⟩
  | f :: fs, m, m1, l, l1, hf, h => by
    have h : (rf m l f).bind (fun p => rfs fs p.1 p.2) = some (m1, l1) := h
    cases h3 : rf m l f with
    | none => rw [h3] at h; cases h
    | some x =>
      rw [h3, Option.bind_some] at h
      have h1 := rf_small (hf f (by simp)) h3
      have h2 := rfs_small (fun g hg => hf g (by simp [hg])) h
      exact ⟨h2.1.trans h1.1, h2.2.1.trans h1.2.1, h2.2.2.1.trans h1.2.2.1, h2.2.2.2.trans h1.2.2.2⟩
theorem get_small (w : World) (B p q : Nat) (m : Msg) (s : Sl) (l : List UInt8) (f : Nat) (hf : f < 8) (h : Rd w B p l) (hB : Blk w q 27 (mv m s)) (hq : B ≤ q ∧ q ≠ p) :
    Calls Tryd.prog 36 #[.pointer (some ⟨p, 0, none⟩), .int .u16 (bit f), .pointer (some ⟨q, 0, none⟩)] w (GetS w B p q s (rf m l f)) := by
  have : f = 0 ∨ f = 1 ∨ f = 2 ∨ f = 3 ∨ f = 4 ∨ f = 5 ∨ f = 6 ∨ f = 7 := by omega
  rcases this with rfl | rfl | rfl | rfl | rfl | rfl | rfl | rfl
  · exact get0_any w B p q m s l h hB hq
  · exact get1_any w B p q m s l h hB hq
  · exact get2_any w B p q m s l h hB hq
  · exact get3_any w B p q m s l h hB hq
  · exact get4_any w B p q m s l h hB hq
  · exact get5_any w B p q m s l h hB hq
  · exact get6_any w B p q m s l h hB hq
  · exact get7_any w B p q m s l h hB hq
/-- Get's deferred closure, where nothing is thrown. -/
theorem idle_in (a b : Addr) (w : World) (n : Nat) :
    CallsDIn Fence.wide n Tryd.prog 34 #[.pointer (some a), .pointer (some b)] .returning w fun e u' w' => e = .returned (.tuple #[]) ∧ u' = .returning ∧ w' = w := by
  refine callsDIn_of_wpSIn Tryd.func34 rfl trivial fun c₀ cs hu => ?_
  apply wpSIn_seq
  apply wpSIn_region
  simp [wpOpsSIn, go_sem, recoverD, hu, Tryd.ntmps34, Exit.thenS]
  apply wpSIn_seq
  apply wpSIn_region
  simp [wpOpsSIn, go_sem, Exit.thenS]
  refine wpSIn_cond (t := false) (by simp [Act.eval, Array.replicate]) ?_
  simp only [Bool.false_eq_true, if_false]
  refine wpSIn_of_wpIn rfl (wpIn_skip ?_)
  cases c₀
  simp_all [bodyPostS, results, Tryd.results34]
/-- Get's state within its loop. -/
def GetI (w : World) (q : Nat) (m0 : Msg) (r0 : List UInt8) (pre : List Nat) (W : World) : Prop :=
  ∃ m l, rfs pre m0 r0 = some (m, l) ∧ Rd W q (q + 2) l ∧ Blk W q 27 (mv m s0) ∧ Blk W (q + 3) 71 #[.pointer (some ⟨q + 2, 0, none⟩)] ∧ Blk W (q + 1) 22 #[.int .i64 0] ∧ Below q w W
set_option maxRecDepth 100000 in
set_option maxHeartbeats 8000000 in
theorem get_ok (w : World) (A : Option Addr) (b : List UInt8) (n c : Nat) (hn : n = b.length) (hnc : n ≤ c) (hcc : c ≤ 9223372036854775807) (hA : Bytes w w.heap.size A b) (hT : HasT w)
    (n1 n2 n3 : Nat) (r1 r2 r0 : List UInt8) (m1 : Msg) (h1 : rnum 1 b = some (n1, r1)) (h2 : rnum 2 r1 = some (n2, r2)) (h3 : rnum 2 r2 = some (n3, r0)) (hs : ∀ f ∈ flds n1, f < 8)
    (h4 : rfs (flds n1) (msg0 n1 (n2 : Int) (n3 : Int)) r0 = some (m1, [])) (h5 : may m1 = true) :
    Calls Tryd.prog 15 #[.slice A n c] w fun e w' => e = .returned (.tuple #[.agg (mv m1 s0), .int .i64 0]) ∧ Below w.heap.size w w' := by
  subst hn
  have hmf : ∀ (fn : Fn) (first cap : Array Value) (w : World), (Instr.makeFunc fn first cap).run Tryd.prog w = .ok (.func fn first cap) w := fun _ _ _ _ => rfl
  have hbd : ∀ (W : World) (A : Option Addr) (n c : Nat), (Instr.build 73 #[(0, .slice A n c)]).run Tryd.prog W = .ok (.agg #[.slice A n c]) W := fun W A n c => by kernel_rfl
  obtain ⟨q, hq⟩ : ∃ q, w.heap.size = q := ⟨_, rfl⟩
  obtain ⟨w2, hw2⟩ : ∃ w2 : World, ((((w.alloc (.cells #[.int .u8 0, .int .i64 0, .int .i64 0, .int .i64 0, .string { data := #[] }, .int .i64 0, .int .i64 0, .int .i64 0, .int .i64 0, .int .i64 0, .bool false, .slice none 0 0, .slice none 0 0, .slice none 0 0] 27)).alloc (.cells #[.int .i64 0] 22)).alloc (.cells #[.slice A b.length c] 73)).alloc (.cells #[.pointer (some ⟨q + 2, 0, none⟩)] 71)) = w2 := ⟨_, rfl⟩
  have hb2 : Below w.heap.size w w2 := by rw [← hw2]; exact nextA (nextA (nextA (nextA (Mem.start w) _) _) _) _
  have HQ2 := Lib.hid (show Blk w2 q 27 #[.int .u8 0, .int .i64 0, .int .i64 0, .int .i64 0, .string { data := #[] }, .int .i64 0, .int .i64 0, .int .i64 0, .int .i64 0, .int .i64 0, .bool false, .slice none 0 0, .slice none 0 0, .slice none 0 0] ∧ Blk w2 (q + 1) 22 #[.int .i64 0] ∧ Blk w2 (q + 2) 73 #[.slice A b.length c] ∧ Blk w2 (q + 3) 71 #[.pointer (some ⟨q + 2, 0, none⟩)] by
    rw [← hw2, ← hq]
    refine ⟨?_, ?_, ?_, ?_⟩
    · exact (((Blk.new w _ _).keep (nextA (Mem.start _) _)).keep (nextA (Mem.start _) _)).keep (nextA (Mem.start _) _)
    · have := ((Blk.new (w.alloc (.cells #[.int .u8 0, .int .i64 0, .int .i64 0, .int .i64 0, .string { data := #[] }, .int .i64 0, .int .i64 0, .int .i64 0, .int .i64 0, .int .i64 0, .bool false, .slice none 0 0, .slice none 0 0, .slice none 0 0] 27)) 22 #[.int .i64 0]).keep (nextA (Mem.start _) (.cells #[.slice A b.length c] 73))).keep (nextA (Mem.start _) (.cells #[.pointer (some ⟨w.heap.size + 2, 0, none⟩)] 71))
      rw [World.size_alloc] at this; exact this
    · have := (Blk.new ((w.alloc (.cells #[.int .u8 0, .int .i64 0, .int .i64 0, .int .i64 0, .string { data := #[] }, .int .i64 0, .int .i64 0, .int .i64 0, .int .i64 0, .int .i64 0, .bool false, .slice none 0 0, .slice none 0 0, .slice none 0 0] 27)).alloc (.cells #[.int .i64 0] 22)) 73 #[.slice A b.length c]).keep (nextA (Mem.start _) (.cells #[.pointer (some ⟨w.heap.size + 2, 0, none⟩)] 71))
      rw [World.size_alloc, World.size_alloc] at this; exact this
    · have := Blk.new (((w.alloc (.cells #[.int .u8 0, .int .i64 0, .int .i64 0, .int .i64 0, .string { data := #[] }, .int .i64 0, .int .i64 0, .int .i64 0, .int .i64 0, .int .i64 0, .bool false, .slice none 0 0, .slice none 0 0, .slice none 0 0] 27)).alloc (.cells #[.int .i64 0] 22)).alloc (.cells #[.slice A b.length c] 73)) 71 #[.pointer (some ⟨w.heap.size + 2, 0, none⟩)]
      rw [World.size_alloc, World.size_alloc, World.size_alloc] at this; exact this)
  have HB2 := Lib.hid (show Below q w w2 ∧ w2.heap.size = q + 4 ∧ q = w.heap.size by rw [← hq]; exact ⟨hb2, by rw [← hw2]; simp, rfl⟩)
  have HR2 := Lib.hid (show Rd w2 q (q + 2) b from ⟨by omega, A, c, HQ2.out.2.2.1, by rw [← hq]; exact hA.below hb2, hnc, hcc⟩)
  have HT := Lib.hid (And.intro hT hT.pos)
  have HH := Lib.hid (And.intro h1 (And.intro h2 h3))
  have HE := Lib.hid (And.intro hs (And.intro h4 h5))
  have HN := Lib.hid (show n1 < 256 ∧ n2 < 65536 ∧ n3 < 65536 from ⟨(rnum_some h1).1, (rnum_some h2).1, (rnum_some h3).1⟩)
  have hg1 : sgn n1 = (n1 : Int) := sgn_small (by have := HN.out; omega)
  have hg2 : sgn n2 = (n2 : Int) := sgn_small (by have := HN.out; omega)
  have hg3 : sgn n3 = (n3 : Int) := sgn_small (by have := HN.out; omega)
  have hwk : IntKind.u8.wrap (n1 : Int) = (n1 : Int) := by
    have e : ∀ x : Int, IntKind.u8.wrap x = x % 256 := fun _ => rfl
    rw [e]; have := HN.out; omega
  have HG := Lib.hid (And.intro hg1 (And.intro hg2 hg3))
  clear hb2 hA hT h1 h2 h3 h4 h5 hs hnc hcc hg1 hg2 hg3
  refine of_wide ?_
  refine callsIn_of_wp_marks Tryd.func15 rfl trivial ?_ rfl
  refine wpIn_wide.2 ?_
  simp only [Tryd.ntmps15, List.size_toArray, List.length_cons, List.length_nil, Nat.reduceAdd, Nat.reduceSub, Array.replicate_succ, Array.replicate_zero, List.push_toArray, List.append_toArray, List.nil_append, List.cons_append]
  go_wp2_with fail
  have HW2 := Lib.hid hw2
  clear hbd hw2
  refine wp_region_noPanic ?_
  refine wp_heldG (fun V => Blk V (q + 3) 71 #[.pointer (some ⟨q + 2, 0, none⟩)]) [] (by kernel_rfl) ?hs0 ?rg0
  case hs0 =>
    exact HQ2.out.2.2.2.keep (nextN (Mem.start _) 1)
  case rg0 =>
  intro hHeld
  refine wpAnyG_take (i := 0) (oi := { dst := some 10, op := Op.load 71 (Operand.tmp 4), type := 71, pos := _, after := #[], guard := none }) (v := ?_) rfl (by kernel_rfl) (by kernel_rfl) (by kernel_rfl) (by kernel_rfl) (fun _ _ _ h => h) (Or.inl ⟨by rfl, ?_⟩) (by assumption) ?_
  rotate_left
  · intro w hSw
    try dsimp only at hSw
    have hk := hSw.cell 0
    simp at hk
    go_simp
    try with_reducible rfl
  try simp only [Act.put, List.setIfInBounds_toArray, List.set_cons_zero, List.set_cons_succ]
  refine wpAnyG_take (i := 3) (oi := { dst := some 13, op := Op.load 71 (Operand.tmp 4), type := 71, pos := _, after := #[], guard := none }) (v := ?_) rfl (by kernel_rfl) (by kernel_rfl) (by kernel_rfl) (by kernel_rfl) (fun _ _ _ h => h) (Or.inl ⟨by rfl, ?_⟩) (by assumption) ?_
  rotate_left
  · intro w hSw
    try dsimp only at hSw
    have hk := hSw.cell 0
    simp at hk
    go_simp
    try with_reducible rfl
  try simp only [Act.put, List.setIfInBounds_toArray, List.set_cons_zero, List.set_cons_succ]
  refine wpAnyG_take (i := 5) (oi := { dst := some 15, op := Op.load 71 (Operand.tmp 4), type := 71, pos := _, after := #[], guard := none }) (v := ?_) rfl (by kernel_rfl) (by kernel_rfl) (by kernel_rfl) (by kernel_rfl) (fun _ _ _ h => h) (Or.inl ⟨by rfl, ?_⟩) (by assumption) ?_
  rotate_left
  · intro w hSw
    try dsimp only at hSw
    have hk := hSw.cell 0
    simp at hk
    go_simp
    try with_reducible rfl
  try simp only [Act.put, List.setIfInBounds_toArray, List.set_cons_zero, List.set_cons_succ]
  refine wpAnyG_one (i := 1) (o := { dst := some 11, op := Op.call { callee := Callee.value (Operand.func 35), args := #[Operand.tmp 10, Operand.const (Value.int IntKind.i64 1)], argTypes := #[71, 3] }, type := 2, pos := _, after := #[{ on := 0, ground := Ground.data }], guard := none }) (by kernel_rfl) rfl (fun K hK => ?_)
  go_simp
  refine (number_any _ q (q + 2) 1 _ (HR2.out.keep (nextN (Mem.start _) 1)) (by decide)).mono ?_
  rintro e w4 he
  rw [HH.out.1] at he
  obtain ⟨hf, rfl, hr1⟩ := he
  dsimp only [Option.map_some] at hr1 ⊢
  rw [HG.out.1]
  have HF1 := Lib.hid hf
  have HD1 := Lib.hid hr1
  clear hr1
  refine hK.out _ _ ?_ (fun hHeld => ?_)
  · intro _
    try dsimp only
    exact hHeld.fr hf (by omega)
  clear hK K
  try simp only [Act.put, List.setIfInBounds_toArray, List.set_cons_zero, List.set_cons_succ]
  have hHeld := hHeld (by kernel_rfl)
  refine wpAnyG_pure (i := 2) (oi := { dst := some 12, op := Op.convert 2 5 (Operand.tmp 11), type := 5, pos := _, after := #[{ on := 1, ground := Ground.data }], guard := none }) (v := ?_) rfl (by kernel_rfl) (by kernel_rfl) (by kernel_rfl) (by kernel_rfl) (fun _ _ _ h => h) (Or.inl ⟨by rfl, ?_⟩) (fun _ => by assumption) ?_
  rotate_left
  · intro w hSw
    try dsimp only at hSw
    go_simp
    try with_reducible rfl
  try simp only [Act.put, List.setIfInBounds_toArray, List.set_cons_zero, List.set_cons_succ]
  refine wpAnyG_one (i := 4) (o := { dst := some 14, op := Op.call { callee := Callee.value (Operand.func 35), args := #[Operand.tmp 13, Operand.const (Value.int IntKind.i64 2)], argTypes := #[71, 3] }, type := 2, pos := _, after := #[{ on := 3, ground := Ground.data }, { on := 1, ground := Ground.chain }], guard := none }) (by kernel_rfl) rfl (fun K hK => ?_)
  go_simp
  refine (number_any _ q (q + 2) 2 _ (HD1.out) (by decide)).mono ?_
  rintro e w5 he
  rw [HH.out.2.1] at he
  obtain ⟨hf, rfl, hr2⟩ := he
  dsimp only [Option.map_some] at hr2 ⊢
  rw [HG.out.2.1]
  have HF2 := Lib.hid hf
  have HD2 := Lib.hid hr2
  clear hr2
  refine hK.out _ _ ?_ (fun hHeld => ?_)
  · intro _
    try dsimp only
    exact hHeld.fr hf (by omega)
  clear hK K
  try simp only [Act.put, List.setIfInBounds_toArray, List.set_cons_zero, List.set_cons_succ]
  have hHeld := hHeld (by kernel_rfl)
  refine wpAnyG_one (i := 6) (o := { dst := some 16, op := Op.call { callee := Callee.value (Operand.func 35), args := #[Operand.tmp 15, Operand.const (Value.int IntKind.i64 2)], argTypes := #[71, 3] }, type := 2, pos := _, after := #[{ on := 5, ground := Ground.data }, { on := 4, ground := Ground.chain }], guard := none }) (by kernel_rfl) rfl (fun K hK => ?_)
  go_simp
  refine (number_any _ q (q + 2) 2 _ (HD2.out) (by decide)).mono ?_
  rintro e w6 he
  rw [HH.out.2.2] at he
  obtain ⟨hf, rfl, hr3⟩ := he
  dsimp only [Option.map_some] at hr3 ⊢
  rw [HG.out.2.2]
  have HF3 := Lib.hid hf
  have HD3 := Lib.hid hr3
  clear hr3
  refine hK.out _ _ ?_ (fun hHeld => ?_)
  · intro _
    try dsimp only
    exact hHeld.fr hf (by omega)
  clear hK K
  try simp only [Act.put, List.setIfInBounds_toArray, List.set_cons_zero, List.set_cons_succ]
  have hHeld := hHeld (by kernel_rfl)
  refine wpAnyG_pure (i := 7) (oi := { dst := some 17, op := Op.fieldAddr 27 (Operand.tmp 2) 0, type := 0, pos := _, after := #[{ on := 0, ground := Ground.phase }, { on := 1, ground := Ground.phase }, { on := 2, ground := Ground.phase }, { on := 3, ground := Ground.textOnly Departure.lateStoresUnsure }, { on := 4, ground := Ground.phase }, { on := 5, ground := Ground.textOnly Departure.lateStoresUnsure }, { on := 6, ground := Ground.phase }], guard := none }) (v := ?_) rfl (by kernel_rfl) (by kernel_rfl) (by kernel_rfl) (by kernel_rfl) (fun _ _ _ h => h) (Or.inl ⟨by rfl, ?_⟩) (fun _ => by assumption) ?_
  rotate_left
  · intro w hSw
    try dsimp only at hSw
    go_simp
    try with_reducible rfl
  try simp only [Act.put, List.setIfInBounds_toArray, List.set_cons_zero, List.set_cons_succ]
  refine wpAnyG_one (i := 8) (o := { dst := none, op := Op.store 5 (Operand.tmp 17) (Operand.tmp 12), type := 0, pos := _, after := #[{ on := 7, ground := Ground.data }, { on := 2, ground := Ground.data }, { on := 6, ground := Ground.chain }, { on := 0, ground := Ground.phase }, { on := 1, ground := Ground.phase }, { on := 2, ground := Ground.phase }, { on := 3, ground := Ground.textOnly Departure.lateStoresUnsure }, { on := 4, ground := Ground.phase }, { on := 5, ground := Ground.textOnly Departure.lateStoresUnsure }, { on := 6, ground := Ground.phase }], guard := none }) (by kernel_rfl) rfl (fun K hK => ?_)
  have g2 : Below q w w2.drew := HB2.out.1.trans ⟨rfl, rfl, rfl, Nat.le_refl _, fun _ _ => rfl⟩
  have e2 : q ≤ w2.drew.heap.size := by show q ≤ w2.heap.size; have := HB2.out.2.1; omega
  have g4 := g2.trans (HF1.out.below e2 fun k hk => by omega)
  have e4 := Nat.le_trans e2 HF1.out.size
  have g5 := g4.trans (HF2.out.below e4 fun k hk => by omega)
  have e5 := Nat.le_trans e4 HF2.out.size
  have g6 := g5.trans (HF3.out.below e5 fun k hk => by omega)
  have HQ6 := Lib.hid (show Blk w6 q 27 #[.int .u8 0, .int .i64 0, .int .i64 0, .int .i64 0, .string { data := #[] }, .int .i64 0, .int .i64 0, .int .i64 0, .int .i64 0, .int .i64 0, .bool false, .slice none 0 0, .slice none 0 0, .slice none 0 0] ∧ Blk w6 (q + 1) 22 #[.int .i64 0] ∧ Below q w w6 ∧ q ≤ w6.heap.size from ⟨(((HQ2.out.1.keep (nextN (Mem.start _) 1)).fr HF1.out (by omega)).fr HF2.out (by omega)).fr HF3.out (by omega), (((HQ2.out.2.1.keep (nextN (Mem.start _) 1)).fr HF1.out (by omega)).fr HF2.out (by omega)).fr HF3.out (by omega), g6, Nat.le_trans e5 HF3.out.size⟩)
  clear g2 e2 g4 e4 g5 e5 g6
  have z0 := HQ6.out.1.frozen 0
  have c0 := HQ6.out.1.cell 0
  simp at c0
  go_simp
  try dsimp only
  refine hK.out _ _ ?_ (fun hHeld => ?_)
  · intro _
    try dsimp only
    exact hHeld.fr (Fr.setCell (S := fun k => k = q) (Fr.refl _ _) (p := ⟨q, 0, none⟩) (fun _ => rfl) _) (by omega)
  clear hK K
  try simp only [Act.put, List.setIfInBounds_toArray, List.set_cons_zero, List.set_cons_succ]
  have hHeld := hHeld (by kernel_rfl)
  refine wpAnyG_pure (i := 9) (oi := { dst := some 18, op := Op.fieldAddr 27 (Operand.tmp 2) 1, type := 0, pos := _, after := #[{ on := 0, ground := Ground.phase }, { on := 1, ground := Ground.phase }, { on := 2, ground := Ground.phase }, { on := 3, ground := Ground.phase }, { on := 4, ground := Ground.phase }, { on := 5, ground := Ground.textOnly Departure.lateStoresUnsure }, { on := 6, ground := Ground.phase }, { on := 7, ground := Ground.phase }, { on := 8, ground := Ground.phase }], guard := none }) (v := ?_) rfl (by kernel_rfl) (by kernel_rfl) (by kernel_rfl) (by kernel_rfl) (fun _ _ _ h => h) (Or.inl ⟨by rfl, ?_⟩) (fun _ => by assumption) ?_
  rotate_left
  · intro w hSw
    try dsimp only at hSw
    go_simp
    try with_reducible rfl
  try simp only [Act.put, List.setIfInBounds_toArray, List.set_cons_zero, List.set_cons_succ]
  refine wpAnyG_one (i := 10) (o := { dst := none, op := Op.store 3 (Operand.tmp 18) (Operand.tmp 14), type := 0, pos := _, after := #[{ on := 9, ground := Ground.data }, { on := 4, ground := Ground.data }, { on := 8, ground := Ground.chain }, { on := 0, ground := Ground.phase }, { on := 1, ground := Ground.phase }, { on := 2, ground := Ground.phase }, { on := 3, ground := Ground.phase }, { on := 4, ground := Ground.phase }, { on := 5, ground := Ground.textOnly Departure.lateStoresUnsure }, { on := 6, ground := Ground.phase }, { on := 7, ground := Ground.phase }, { on := 8, ground := Ground.phase }], guard := none }) (by kernel_rfl) rfl (fun K hK => ?_)
  have z0 := (HQ6.out.1.set_ 0 (.int .u8 (n1 : Int))).frozen 1
  have c0 := (HQ6.out.1.set_ 0 (.int .u8 (n1 : Int))).cell 1
  simp at c0
  go_simp
  try dsimp only
  refine hK.out _ _ ?_ (fun hHeld => ?_)
  · intro _
    try dsimp only
    exact hHeld.fr (Fr.setCell (S := fun k => k = q) (Fr.refl _ _) (p := ⟨q, 1, none⟩) (fun _ => rfl) _) (by omega)
  clear hK K
  try simp only [Act.put, List.setIfInBounds_toArray, List.set_cons_zero, List.set_cons_succ]
  have hHeld := hHeld (by kernel_rfl)
  refine wpAnyG_pure (i := 11) (oi := { dst := some 19, op := Op.fieldAddr 27 (Operand.tmp 2) 2, type := 0, pos := _, after := #[{ on := 0, ground := Ground.phase }, { on := 1, ground := Ground.phase }, { on := 2, ground := Ground.phase }, { on := 3, ground := Ground.phase }, { on := 4, ground := Ground.phase }, { on := 5, ground := Ground.phase }, { on := 6, ground := Ground.phase }, { on := 7, ground := Ground.phase }, { on := 8, ground := Ground.phase }, { on := 9, ground := Ground.phase }, { on := 10, ground := Ground.phase }], guard := none }) (v := ?_) rfl (by kernel_rfl) (by kernel_rfl) (by kernel_rfl) (by kernel_rfl) (fun _ _ _ h => h) (Or.inl ⟨by rfl, ?_⟩) (fun _ => by assumption) ?_
  rotate_left
  · intro w hSw
    try dsimp only at hSw
    go_simp
    try with_reducible rfl
  try simp only [Act.put, List.setIfInBounds_toArray, List.set_cons_zero, List.set_cons_succ]
  refine wpAnyG_one (i := 12) (o := { dst := none, op := Op.store 3 (Operand.tmp 19) (Operand.tmp 16), type := 0, pos := _, after := #[{ on := 11, ground := Ground.data }, { on := 6, ground := Ground.data }, { on := 10, ground := Ground.chain }, { on := 0, ground := Ground.phase }, { on := 1, ground := Ground.phase }, { on := 2, ground := Ground.phase }, { on := 3, ground := Ground.phase }, { on := 4, ground := Ground.phase }, { on := 5, ground := Ground.phase }, { on := 6, ground := Ground.phase }, { on := 7, ground := Ground.phase }, { on := 8, ground := Ground.phase }, { on := 9, ground := Ground.phase }, { on := 10, ground := Ground.phase }], guard := none }) (by kernel_rfl) rfl (fun K hK => ?_)
  have z0 := ((HQ6.out.1.set_ 0 (.int .u8 (n1 : Int))).set_ 1 (.int .i64 (n2 : Int))).frozen 2
  have c0 := ((HQ6.out.1.set_ 0 (.int .u8 (n1 : Int))).set_ 1 (.int .i64 (n2 : Int))).cell 2
  simp at c0
  go_simp
  try dsimp only
  refine hK.out _ _ ?_ (fun hHeld => ?_)
  · intro _
    try dsimp only
    exact hHeld.fr (Fr.setCell (S := fun k => k = q) (Fr.refl _ _) (p := ⟨q, 2, none⟩) (fun _ => rfl) _) (by omega)
  clear hK K
  try simp only [Act.put, List.setIfInBounds_toArray, List.set_cons_zero, List.set_cons_succ]
  have hHeld := hHeld (by kernel_rfl)
  refine wpAnyG_done (by kernel_rfl) ?_ _
  refine NoPanic.normal ?_
  have HH3 := Lib.hid hHeld
  clear hHeld
  obtain ⟨w7, hw7⟩ : ∃ x : World, ((w6.setCell ⟨q, 0, none⟩ (.int .u8 (n1 : Int))).setCell ⟨q, 1, none⟩ (.int .i64 (n2 : Int))).setCell ⟨q, 2, none⟩ (.int .i64 (n3 : Int)) = x := ⟨_, rfl⟩
  have hf7 : Fr (fun k => k = q) w6 w7 := by
    rw [← hw7]
    exact Fr.setCell (S := fun k => k = q) (Fr.setCell (S := fun k => k = q) (Fr.setCell (S := fun k => k = q) (w' := w6) (Fr.refl _ w6) (p := ⟨q, 0, none⟩) (fun _ => rfl) _) (p := ⟨q, 1, none⟩) (fun _ => rfl) _) (p := ⟨q, 2, none⟩) (fun _ => rfl) _
  have HI7 := Lib.hid (show GetI w q (msg0 n1 (n2 : Int) (n3 : Int)) r0 [] w7 from ⟨_, _, rfl, HD3.out.fr hf7 (fun k hk => by omega) (by omega), by
    rw [← hw7]
    have := ((HQ6.out.1.set_ 0 (.int .u8 (n1 : Int))).set_ 1 (.int .i64 (n2 : Int))).set_ 2 (.int .i64 (n3 : Int))
    exact this, by rw [← hw7]; exact HH3.out, HQ6.out.2.1.fr hf7 (by omega), HQ6.out.2.2.1.trans (hf7.below HQ6.out.2.2.2 fun k hk => by omega)⟩)
  rw [hw7]
  have c0 : w7.cell? ⟨q, 0, none⟩ = some (.int .u8 (n1 : Int)) := by
    obtain ⟨m, l, h, _, h1, _⟩ := HI7.out
    injection h with h
    injection h with h _
    subst h
    exact h1.cell 0
  clear hf7 hw7 z0
  go_wp2_with fail
  refine (fieldsOf_any w7 n1).mono ?_
  rintro e w8 ⟨rfl, hw8⟩
  obtain ⟨kb, hkb⟩ : ∃ kb, w7.heap.size = kb := ⟨_, rfl⟩
  have hb8 : Below w7.heap.size w7 w8 := by rw [← hw8]; exact nextA (Mem.start w7) _
  have HS8 := Lib.hid (show w8.heap.size = kb + 1 ∧ q + 3 < kb ∧ 0 < q by
    refine ⟨by rw [← hw8, World.size_alloc, hkb], ?_, by have := HT.out.2; have := HB2.out.2.2; omega⟩
    obtain ⟨_, _, _, _, _, h, _⟩ := HI7.out
    rw [← hkb]; exact h.lt)
  have HC8 := Lib.hid (show w8.cell? ⟨kb, 0, none⟩ = some (.int .u8 (n1 : Int)) by rw [← hw8, ← hkb, new_cell]; rfl)
  have hi : ∀ pre W W' S, GetI w q (msg0 n1 (n2 : Int) (n3 : Int)) r0 pre W → Fr S W W' → (∀ k, S k → q + 4 ≤ k) → GetI w q (msg0 n1 (n2 : Int) (n3 : Int)) r0 pre W' := by
    rintro pre W W' S ⟨m, l, h1, h2, h3, h4, h5, h6⟩ hf hS
    have e : q ≤ W.heap.size := by have := h3.lt; omega
    exact ⟨m, l, h1, h2.fr hf (fun k hk => by have := hS k hk; omega) (fun h => by have := hS _ h; omega), h3.fr hf (fun h => by have := hS _ h; omega), h4.fr hf (fun h => by have := hS _ h; omega), h5.fr hf (fun h => by have := hS _ h; omega), h6.trans (hf.below e fun k hk => by have := hS k hk; omega)⟩
  have HIF := Lib.hid hi
  have HI8 := Lib.hid (hi [] w7 w8 (fun _ => False) HI7.out (Fr.quiet hb8) (fun _ h => h.elim))
  have HT8 := Lib.hid (show HasT w8 from fun k hk => by
    obtain ⟨_, _, _, _, _, _, _, h⟩ := HI8.out
    exact (h.cell (by have := HS8.out; dsimp only; omega)).trans (HT.out.1 k hk))
  rw [hkb]
  clear hw8 hb8 hkb c0 hi
  go_wp2_with fail
  refine (wpIn_wide (n := 5)).1 ?_
  refine wpIn_rangeT (gf := 57) (lb := #[.pointer (some ⟨kb, 0, none⟩)]) (encs := fun f : Nat => #[.int .u16 (bit f)]) rfl (enters_of Tryd.func57 (by kernel_rfl) rfl) (fun _ => rfl)
    (fun pre W' => GetI w q (msg0 n1 (n2 : Int) (n3 : Int)) r0 pre W') (fun _ _ _ => False) (fun pre x W1 => Nxt n1 pre x) (fun k => k = q + 2 ∨ k = q) (S := fun xs => xs = flds n1) (Sp := fun _ => False) ?hsb
    (fields_callT w8 kb n1 HN.out.1 _ _ _ HT8.out (by have := HS8.out; omega) HC8.out (fun _ _ _ h => h))
    ?hI ?hIx ?hLX ?h0 ?round ?done ?stop
  case hsb => rw [HS8.out.1]; have := HS8.out; omega
  case hI =>
    intro pre W1 W2 h hf
    rw [HS8.out.1] at hf
    exact HIF.out pre W1 W2 _ h hf (fun k h => by have := HS8.out; omega)
  case hIx => exact fun _ _ _ _ h => h.elim
  case hLX => exact fun pre x W1 W2 h hf => h
  case h0 =>
    intro W1 hb _
    exact HIF.out [] w8 W1 (fun _ => False) HI8.out (Fr.quiet hb) (fun _ h => h.elim)
  case round =>
    rintro lp pre x W1 hI1 hx1
    gi_wp2
    refine ⟨trivial, ?_⟩
    clear hI1 hx1
    rintro W2 hI2 hx
    obtain ⟨m, l, h1, h2, h3, h4, h5, h6⟩ := hI2
    obtain ⟨hx11, r, hr⟩ := hx
    have hx8 : x < 8 := HE.out.1 x (by rw [← hr]; simp)
    obtain ⟨m3, l3, hrf, hnx⟩ := rfs_next (by rw [hr]; exact HE.out.2.1) h1
    have HX := Lib.hid (And.intro hx8 (And.intro hrf hnx))
    have HY := Lib.hid (And.intro h2 (And.intro h3 (And.intro h4 (And.intro h5 h6))))
    have c4 := h4.cell 0
    simp at c4
    rw [show q + 3 = q + 1 + 1 + 1 from rfl] at c4
    clear h1 h2 h3 h4 h5 h6 hx11 hr hx8 hrf hnx
    gi_wp2
    refine (wideR (get_small W2 q (q + 2) q m s0 l x HX.out.1 HY.out.1 HY.out.2.1 ⟨Nat.le_refl _, by omega⟩)).mono ?_
    rintro e w9 h9
    rw [HX.out.2.1] at h9
    obtain ⟨hf9, rfl, hr9, hb9⟩ := h9
    have HZ := Lib.hid (And.intro hf9 (And.intro hr9 hb9))
    clear hf9 hr9 hb9 c4
    gi_wp2
    have e : q ≤ W2.heap.size := by have := HY.out.2.1.lt; omega
    exact ⟨HZ.out.1, m3, l3, HX.out.2.2, HZ.out.2.1, HZ.out.2.2, HY.out.2.2.1.fr HZ.out.1 (by omega), HY.out.2.2.2.1.fr HZ.out.1 (by omega), HY.out.2.2.2.2.trans (HZ.out.1.below e fun k hk => by omega)⟩
  case done =>
    rintro D xs W hD rfl hI5 hK
    rw [HS8.out.1] at hD
    obtain ⟨m, l, h1, h2, h3, h4, h5, h6⟩ := hI5
    rw [HE.out.2.1] at h1
    injection h1 with h1
    injection h1 with e1 e2
    subst e1
    subst e2
    have hsm := rfs_small HE.out.1 HE.out.2.1
    have hmf := (may_iff m1).1 HE.out.2.2
    have HMI := Lib.hid (show HasT W ∧ MIn W W.heap.size m1 s0 from ⟨fun k hk => (h6.cell (by have := HS8.out; dsimp only; omega)).trans (HT.out.1 k hk), by
      obtain ⟨_, g1, g2, g3⟩ := hsm
      refine ⟨?_, ?_, ?_, by have := hmf.kind; omega, by have := hmf.key; omega, by have := hmf.ids; omega, by have := hmf.nodes; omega, by have := hmf.data; omega, fun x hx => by have := (hmf.id x hx).1; omega⟩
      · rw [g1]; exact Cells.nil
      · rw [g2]; exact Cells.nil
      · rw [g3]; exact Bytes.nil⟩)
    obtain ⟨_, A', c', g1, g2, g3⟩ := h2
    have HX := Lib.hid h3
    have HD := Lib.hid (And.intro hD (And.intro hK (And.intro h4 (And.intro h5 h6))))
    have c0 := HX.out.cell 0
    have c1 := HX.out.cell 1
    have c2 := HX.out.cell 2
    have c3 := HX.out.cell 3
    have c4 := HX.out.cell 4
    have c5 := HX.out.cell 5
    have c6 := HX.out.cell 6
    have c7 := HX.out.cell 7
    have c8 := HX.out.cell 8
    have c9 := HX.out.cell 9
    have c10 := HX.out.cell 10
    have c11 := HX.out.cell 11
    have c12 := HX.out.cell 12
    have c13 := HX.out.cell 13
    simp [mv] at c0 c1 c2 c3 c4 c5 c6 c7 c8 c9 c10 c11 c12 c13
    have d0 := g1.cell 0
    simp at d0
    have d4 := h4.cell 0
    simp at d4
    rw [show q + 3 = q + 1 + 1 + 1 from rfl] at d4
    clear h3 h4 h5 h6 g1 g2 g3 hD hK hsm hmf
    go_wp2_with fail
    refine (may_any W m1 s0 HMI.out.1 HMI.out.2).mono ?_
    rintro e w3 ⟨rfl, hb3⟩
    rw [HE.out.2.2]
    have HX3 := Lib.hid (HX.out.keep hb3)
    have HD3' := Lib.hid (show Blk w3 (q + 1) 22 #[.int .i64 0] ∧ Below q w w3 ∧ w3.heap[D]? = some (.deferred (some [])) from ⟨HD.out.2.2.2.1.keep hb3, HD.out.2.2.2.2.trans (hb3.mono (by have := HX.out.lt; omega)), by
      rw [hb3.block D (Array.getElem?_eq_some_iff.1 HD.out.2.1).1]; exact HD.out.2.1⟩)
    clear hb3 c0 c1 c2 c3 c4 c5 c6 c7 c8 c9 c10 c11 c12 c13 d0 d4
    go_wp2_with fail
    refine (want_ok _).mono ?_
    rintro e w4' ⟨rfl, rfl⟩
    go_wp2_with ((with_reducible show wpList _ _ _ ((⟨some 38, _, _, _, _, _⟩ : Oper) :: _) _ _); refine wpList_load_mid rfl 27 (.tmp 2) rfl q 0 rfl (mv m1 s0).toList _ (range_of HX3.out) Tryd.underlying27 rfl minfo ?_; refine wpList_store_mid rfl 27 (.tmp 2) (.tmp 38) rfl q 0 (mv m1 s0) rfl rfl (there_of HX3.out) minfo (mv_one _ _) ?_; obtain ⟨w5', hw5⟩ : ∃ x, w3.setCells q 0 (mv m1 s0).toList = x := ⟨_, rfl⟩; have hF5 : Fr (fun k => k = q) w3 w5' := (by rw [← hw5]; exact set14_fr w3 q m1 s0); have HF5 := Lib.hid hF5; have HX5 := Lib.hid (show Blk w5' q 27 (mv m1 s0) from by rw [← hw5]; exact set14m HX3.out); have HQ5 := Lib.hid (HD3'.out.1.fr hF5 (by omega)); have y0 := HQ5.out.cell 0; have y1 := HQ5.out.frozen 0; simp at y0; rw [hw5]; clear hw5 hF5)
    have hf6 : Fr (fun k => k = q + 1) w5' (w5'.setCell ⟨q + 1, 0, none⟩ (.int .i64 0)) := Fr.setCell (S := fun k => k = q + 1) (w' := w5') (Fr.refl _ w5') (p := ⟨q + 1, 0, none⟩) (fun _ => rfl) _
    obtain ⟨w6', hw6⟩ : ∃ x, w5'.setCell ⟨q + 1, 0, none⟩ (.int .i64 0) = x := ⟨_, rfl⟩
    have HZ := Lib.hid (show Blk w6' q 27 (mv m1 s0) ∧ Blk w6' (q + 1) 22 #[.int .i64 0] ∧ Below q w w6' ∧ w6'.heap[D]? = some (.deferred (some [])) from by
      rw [hw6] at hf6
      have e3 : q ≤ w3.heap.size := by have := HX3.out.lt; omega
      have e5 : q ≤ w5'.heap.size := by have := HX5.out.lt; omega
      refine ⟨HX5.out.fr hf6 (by omega), ?_, (HD3'.out.2.1.trans (HF5.out.below e3 fun k hk => by omega)).trans (hf6.below e5 fun k hk => by omega), ?_⟩
      · rw [← hw6]; exact HQ5.out.set_ 0 (.int .i64 0)
      · have k3 := HD3'.out.2.2
        have k5 := (HF5.out.block D (Array.getElem?_eq_some_iff.1 k3).1 (by have := HD.out.1; have := HS8.out; omega)).trans k3
        exact (hf6.block D (Array.getElem?_eq_some_iff.1 k5).1 (by have := HD.out.1; have := HS8.out; omega)).trans k5)
    rw [hw6]
    clear hf6 hw6 y0 y1
    refine ⟨by simp, .inl ⟨_, _, rfl, run_takeDeferred HZ.out.2.2.2, ?_⟩⟩
    refine ⟨by simp, .inr ⟨by simp [Fence.wide], _, _, 34, #[.pointer (some ⟨q, 0, none⟩), .pointer (some ⟨q + 1, 0, none⟩)], rfl, by simp [go_sem], fun _ _ => trivial, ?_⟩⟩
    refine (idle_in ⟨q, 0, none⟩ ⟨q + 1, 0, none⟩ _ _).mono ?_
    rintro e u' w7' ⟨rfl, rfl, rfl⟩
    have hfs : Fr (fun k => k = D) w6' (w6'.putObj D (.deferred none)) := put_fr _
    have hX := HZ.out.1.fr hfs (by have := HD.out.1; have := HS8.out; omega)
    have hE := HZ.out.2.1.fr hfs (by have := HD.out.1; have := HS8.out; omega)
    refine ⟨.tuple #[.agg (mv m1 s0), .int .i64 0], ?_, rfl, ?_⟩
    · have e0 := hX.cell 0
      have e1 := hX.cell 1
      have e2 := hX.cell 2
      have e3 := hX.cell 3
      have e4 := hX.cell 4
      have e5 := hX.cell 5
      have e6 := hX.cell 6
      have e7 := hX.cell 7
      have e8 := hX.cell 8
      have e9 := hX.cell 9
      have e10 := hX.cell 10
      have e11 := hX.cell 11
      have e12 := hX.cell 12
      have e13 := hX.cell 13
      have e14 := hE.cell 0
      simp [mv] at e0 e1 e2 e3 e4 e5 e6 e7 e8 e9 e10 e11 e12 e13
      simp at e14
      simp [results, Tryd.results15, go_sem, e0, e1, e2, e3, e4, e5, e6, e7, e8, e9, e10, e11, e12, e13, e14]
      rfl
    · rw [← HB2.out.2.2]
      exact HZ.out.2.2.1.trans (hfs.below (by have := HZ.out.1.lt; omega) fun k hk => by have := HD.out.1; have := HS8.out; omega)
  case stop => exact fun _ _ _ _ _ h => h.elim
end Go.Proofs.YtebdmfmadbikaaaDoor.WiW
