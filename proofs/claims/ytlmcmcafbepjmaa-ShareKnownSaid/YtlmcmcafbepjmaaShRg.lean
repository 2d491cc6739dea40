/- The document's Get. -/
import Derived.Test.YtlmcmcafbepjmaaShGet
namespace Go.Proofs.Ytlmcmcafbepjmaa.ShW
open Go.RowKit Go.Shelf Mem Fds Bv FdW Rng
set_option linter.unusedVariables false

/-- What the document's Get leaves; the share's bytes lie in the caller's. -/
def GetR (w : World) (M : Nat) (b : List UInt8) (e : Ending) (w' : World) : Prop :=
  ((∃ s A c B d, isShare b s ∧ e = .returned (.tuple #[.agg #[.slice A s.key.length c, .int .i64 s.ver, .int .i64 s.node, .slice B s.row.length d], .int .i64 0]) ∧ Bytes w' M A s.key ∧ Bytes w' M B s.row) ∨ ((∀ s, ¬ isShare b s) ∧ e = .returned (.tuple #[.agg zsh, .int .i64 160]))) ∧ Below w.heap.size w w'
set_option maxRecDepth 100000 in
set_option maxHeartbeats 8000000 in
theorem rget_short (w : World) (A : Option Addr) (b : List UInt8) (n c M : Nat) (hn : b.length = n) (h4 : n < 18) : Calls Try.prog 21 #[.slice A n c] w (GetR w M b) := by
  have hno : ∀ s, ¬ isShare b s := fun s h => by have := share_len h; omega
  have HNO := Lib.hid hno
  have h4i : (n : Int) < 18 := by omega
  clear hno hn h4
  have HB := Lib.hid (nextA (Mem.start w) (.cells zsh 31))
  go_enter Try.func21, Try.ntmps21
  go_wp2_with fail
  refine bodyPost_ret (v := .tuple #[.agg zsh, .int .i64 160]) (by simp [results, Try.results21, go_sem, zsh]) rfl ⟨.inr ⟨HNO.out, rfl⟩, HB.out⟩
set_option maxRecDepth 100000 in
set_option maxHeartbeats 8000000 in
theorem rget_low (w : World) (ab off : Nat) (b : List UInt8) (n c M : Nat) (hn : b.length = n) (h4 : 18 ≤ n) (hk : n < pk b + 18) (hM : M ≤ w.heap.size) (hA : Bytes w M (some ⟨ab, off, none⟩) b) : Calls Try.prog 21 #[.slice (some ⟨ab, off, none⟩) n c] w (GetR w M b) := by
  have hno : ∀ s, ¬ isShare b s := fun s h => by have := (parse_share h).1; omega
  have HNO := Lib.hid hno
  have h4i : (18 : Int) ≤ (n : Int) := by omega
  have HB := Lib.hid (nextA (Mem.start w) (.cells zsh 31))
  have h0 : (w.alloc (.cells zsh 31)).cell? ⟨ab, off, none⟩ = some (.int .u8 (pk b : Int)) := by
    obtain ⟨b', o', e, hl, hc⟩ := ((hA.up hM).below HB.out).at_ (k := 0) (by omega)
    injection e with e; injection e with e1 e2; subst e1; subst e2
    rw [Nat.add_zero] at hc
    rw [hc]; unfold pk
    rw [List.getD_eq_getElem?_getD, List.getElem?_eq_getElem (show 0 < b.length by omega)]; rfl
  obtain ⟨k, hkk⟩ : ∃ k, pk b = k := ⟨_, rfl⟩
  rw [hkk] at h0 hk
  have hk8 : (k : Int) < 256 := by have := (b.getD 0 0).toNat_lt; unfold pk at hkk; omega
  have hki : (n : Int) < (k : Int) + 18 := by omega
  have hn0 : (0 : Int) < (n : Int) := by omega
  unfold zsh at h0
  clear hno hn h4 hk hkk hA hM
  go_enter Try.func21, Try.ntmps21
  go_wp2_with fail
  refine bodyPost_ret (v := .tuple #[.agg zsh, .int .i64 160]) (by simp [results, Try.results21, go_sem, zsh]) rfl ⟨.inr ⟨HNO.out, rfl⟩, HB.out⟩
/-- The byte at a place. -/
theorem byte_at {w : World} {M ab off : Nat} {b : List UInt8} (hA : Bytes w M (some ⟨ab, off, none⟩) b) {j : Nat} (hj : j < b.length) : w.cell? ⟨ab, off + j, none⟩ = some (.int .u8 ((b.getD j 0).toNat : Int)) := by
  obtain ⟨b', o', e, hl, hc⟩ := hA.at_ hj
  injection e with e; injection e with e1 e2; subst e1; subst e2
  rw [hc, List.getD_eq_getElem?_getD, List.getElem?_eq_getElem hj]; rfl
theorem num_one (b : List UInt8) (j : Nat) (hj : j < b.length) : num ((b.drop j).take 1) = (b.getD j 0).toNat := by
  rw [List.drop_eq_getElem_cons hj]
  rw [List.getD_eq_getElem?_getD, List.getElem?_eq_getElem hj]
  simp only [List.take_succ_cons, List.take_zero, num, List.foldl_cons, List.foldl_nil, Option.getD_some]; omega
theorem rshinfo : (Try.prog.info? 31).map (·.size) = some 4 := by kernel_rfl
/-- A whole share stored in its own variable. -/
theorem step_store4r {ops : Array Oper} {o : Oper} {a : Act} {R : Act → World → Prop} {Q : Exit → Act → World → Prop} {E : Prop} (w : World) (hgd : o.guard = none) (x y : Operand) (ho : o.op = .store 31 x y) (g : Nat) (c0 c1 c2 c3 v0 v1 v2 v3 : Value)
    (hx : a.eval x = .pointer (some ⟨g, 0, none⟩)) (hy : a.eval y = .agg #[v0, v1, v2, v3]) (hB : Blk w g 31 #[c0, c1, c2, c3]) (h1 : (#[v0, v1, v2, v3] : Array Value).all (·.oneCell') = true)
    (h : ∀ w', Blk w' g 31 #[v0, v1, v2, v3] → Fr (fun k => k = g) w w' → R (a.put o.dst undef) w') : if Region.wanted o (yielded ops a.tmps) = true then Oper.wp Try.prog o a w R Q else E := by
  rw [if_pos (by simp [Region.wanted, hgd])]
  refine wp_store_mid _ x y ho g 0 #[v0, v1, v2, v3] hx hy (fun j hj => ?_) rshinfo h1 (h _ (set4 hB v0 v1 v2 v3) ?_)
  · have hj : j < 4 := hj
    refine ⟨?_, ?_⟩
    · rw [Nat.zero_add, hB.cell j]
      rcases j with _ | _ | _ | _ | j
      · rfl
      · rfl
      · rfl
      · rfl
      · omega
    · rw [Nat.zero_add]; exact hB.frozen j
  · exact Fr.setCell (p := ⟨g, 3, none⟩) (Fr.setCell (p := ⟨g, 2, none⟩) (Fr.setCell (p := ⟨g, 1, none⟩) (Fr.setCell (p := ⟨g, 0, none⟩) (Fr.refl (fun k => k = g) w) (fun _ => rfl) v0) (fun _ => rfl) v1) (fun _ => rfl) v2) (fun _ => rfl) v3
/-- While the document's Get goes on. -/
structure Rst (w W : World) (g : Nat) (cs : Array Value) : Prop where
  below : Below w.heap.size w W
  r0 : Blk W w.heap.size 31 zsh
  var : Blk W g 31 cs
  lt : w.heap.size < g
section
variable {w W W' : World} {g : Nat} {cs : Array Value}
theorem Rst.keep (h : Rst w W g cs) (hb : Below W.heap.size W W') : Rst w W' g cs := ⟨next h.below hb, h.r0.keep hb, h.var.keep hb, h.lt⟩
theorem Rst.set (h : Rst w W g cs) (i : Nat) (v : Value) : Rst w (W.setCell ⟨g, i, none⟩ v) g (cs.setIfInBounds i v) := by
  have hf : Fr (fun j => j = g) W (W.setCell ⟨g, i, none⟩ v) := Fr.setCell (p := ⟨g, i, none⟩) (Fr.refl (fun j => j = g) W) (fun _ => rfl) v
  exact ⟨h.below.setCell (p := ⟨g, i, none⟩) (Nat.le_of_lt h.lt) v, h.r0.fr hf (fun e => by have := h.lt; omega), h.var.set_ i v, h.lt⟩
end
theorem exec_add {o : Oper} {a : Act} {w : World} (x y : Operand) (ho : o.op = .binOp .add 3 x y 3) (p q : Int) (hx : a.eval x = .int .i64 p) (hy : a.eval y = .int .i64 q) (z : Nat) (hz : p + q = (z : Int)) (hb : (z : Int) ≤ 9223372036854775807) : (execOp a.eval o).run Try.prog w = .ok (.value (.int .i64 (z : Int))) w := by
  have hw : IntKind.i64.wrap (p + q) = (z : Int) := by rw [hz, IntKind.wrap_i64]; omega
  unfold execOp
  simp only [ho, hx, hy]
  go_simp
  rw [hz] at hw
  exact hw
theorem exec_sub {o : Oper} {a : Act} {w : World} (x y : Operand) (ho : o.op = .binOp .sub 3 x y 3) (p q : Int) (hx : a.eval x = .int .i64 p) (hy : a.eval y = .int .i64 q) (z : Nat) (hz : p - q = (z : Int)) (hb : (z : Int) ≤ 9223372036854775807) : (execOp a.eval o).run Try.prog w = .ok (.value (.int .i64 (z : Int))) w := by
  have hw : IntKind.i64.wrap (p - q) = (z : Int) := by rw [hz, IntKind.wrap_i64]; omega
  unfold execOp
  simp only [ho, hx, hy]
  go_simp
  rw [hz] at hw
  exact hw
theorem ver_step (b : List UInt8) (a i : Nat) (h : a + i < b.length) : num ((b.drop a).take (i + 1)) = num ((b.drop a).take i) * 256 + (b.getD (a + i) 0).toNat := by
  have hl : i < (b.drop a).length := by rw [List.length_drop]; omega
  rw [num_take _ i hl, List.getElem_drop, List.getD_eq_getElem?_getD, List.getElem?_eq_getElem h]; rfl
theorem ver_lt (b : List UInt8) (a i : Nat) : num ((b.drop a).take i) < 256 ^ i := Nat.lt_of_lt_of_le (num_lt _) (Nat.pow_le_pow_right (by decide) (by rw [List.length_take]; omega))
theorem sgn_small {v : Nat} (h : v < 9223372036854775808) : sgn v = (v : Int) := if_pos h
theorem ver_sgn (b : List UInt8) (a i : Nat) (hi : i < 8) (h : a + i < b.length) (vi vs : Int) (ci : Nat) (hv : sgn (num ((b.drop a).take i)) = vi) (hc : (b.getD (a + i) 0).toNat = ci) (hs : IntKind.i64.wrap (vi * 256) = vs) : IntKind.i64.wrap (vs + (ci : Int)) = sgn (num ((b.drop a).take (i + 1))) := by
  have h1 := ver_lt b a i
  have h2 := Nat.lt_of_lt_of_le h1 (Nat.pow_le_pow_right (show 0 < 256 by decide) (show i ≤ 7 by omega))
  have h2 : num ((b.drop a).take i) < 72057594037927936 := h2
  have h3 := ver_step b a i h
  have h4 := (b.getD (a + i) 0).toNat_lt
  rw [hc] at h3 h4
  rw [sgn_small (by omega)] at hv
  rw [h3]
  generalize num ((b.drop a).take i) = v at *
  rw [IntKind.wrap_i64] at hs ⊢
  unfold sgn
  subst hv; subst hs
  split <;> omega
set_option maxRecDepth 100000 in
set_option maxHeartbeats 8000000 in
theorem rget_long (w : World) (ab off : Nat) (b : List UInt8) (k m c M : Nat) (hn : b.length = 18 + k + m) (hmx : b.length ≤ 2 * 256 ^ 2) (hk : pk b = k) (hcap : b.length ≤ c) (hM : M ≤ w.heap.size) (hA : Bytes w M (some ⟨ab, off, none⟩) b) : Calls Try.prog 21 #[.slice (some ⟨ab, off, none⟩) (18 + k + m) c] w (GetR w M b) := by
  obtain ⟨w1, hw1⟩ : ∃ x : World, w.alloc (.cells zsh 31) = x := ⟨_, rfl⟩
  have H1 := Lib.hid (show Below w.heap.size w w1 ∧ Blk w1 w.heap.size 31 zsh ∧ w1.heap.size = w.heap.size + 1 from by rw [← hw1]; exact ⟨nextA (Mem.start w) _, Blk.new w _ _, World.size_alloc _ _⟩)
  have HW1 := Lib.hid hw1
  have HA := Lib.hid (show ∀ W, Below w.heap.size w W → Bytes W M (some ⟨ab, off, none⟩) b from fun W hW => hA.below (hW.mono hM))
  have HN := Lib.hid (And.intro hn (And.intro hk (And.intro hcap hmx)))
  have hk8 : (k : Int) < 256 := by have := (b.getD 0 0).toNat_lt; unfold pk at hk; omega
  have h18 : (18 : Int) ≤ ((18 + k + m : Nat) : Int) := by omega
  have hki : (k : Int) + 18 ≤ ((18 + k + m : Nat) : Int) := by omega
  have hn0 : (0 : Int) < ((18 + k + m : Nat) : Int) := by omega
  have h0 := byte_at ((HA.out w1 H1.out.1)) (j := 0) (by omega)
  rw [show (b.getD 0 0).toNat = k from hk, Nat.add_zero, ← HW1.out] at h0
  unfold zsh at h0
  have HMM := Lib.hid hM
  clear hw1 hA hM hn hk hcap hmx
  go_enter Try.func21, Try.ntmps21
  go_wp2_with fail
  rw [show w.alloc (.cells #[Value.slice none 0 0, Value.int IntKind.i64 0, Value.int IntKind.i64 0, Value.slice none 0 0] 31) = w1 from HW1.out]
  obtain ⟨nd, hnd⟩ : ∃ x, (b.getD (9 + k) 0).toNat = x := ⟨_, rfl⟩
  have H9 := Lib.hid (show 9 + k < b.length from by have := HN.out.1; omega)
  have h9 : ∀ W, Below w1.heap.size w1 W → W.cell? ⟨ab, off + (9 + k), none⟩ = some (.int .u8 (nd : Int)) := fun W hW => by rw [← hnd]; exact byte_at (HA.out _ (next H1.out.1 hW)) H9.out
  have HND := Lib.hid hnd
  have nd8 : (nd : Int) < 256 := by have := (b.getD (9 + k) 0).toNat_lt; omega
  obtain ⟨a1, ha1⟩ : ∃ x, 1 + k = x := ⟨_, rfl⟩
  obtain ⟨a9, ha9⟩ : ∃ x, 9 + k = x := ⟨_, rfl⟩
  obtain ⟨a14, ha14⟩ : ∃ x, 14 + k = x := ⟨_, rfl⟩
  obtain ⟨nl, hnl⟩ : ∃ x, 14 + k + m = x := ⟨_, rfl⟩
  obtain ⟨n, hnn⟩ : ∃ x, 18 + k + m = x := ⟨_, rfl⟩
  have HL := Lib.hid (And.intro ha1 (And.intro ha9 (And.intro ha14 (And.intro hnl hnn))))
  have f0 : IntKind.i64.wrap (nd : Int) = (nd : Int) := IntWalk.i64_in _ (by omega)
  have f1 : (1 : Int) ≤ (a1 : Int) := by omega
  have f2 : (a1 : Int) ≤ (c : Int) := by have := HN.out; omega
  have f3 : ¬ (c = 1) := by have := HN.out; omega
  have f4 : (a9 : Int) < (n : Int) := by omega
  have f5 : (a14 : Int) ≤ (nl : Int) := by omega
  have f6' : (nl : Int) ≤ (c : Int) := by have := HN.out; omega
  have f7 : ¬ (c = a14) := by have := HN.out; omega
  have HK := Lib.hid (show 1 + (k : Int) = (a1 : Int) ∧ 9 + (k : Int) = (a9 : Int) ∧ 14 + (k : Int) = (a14 : Int) ∧ (n : Int) - 4 = (nl : Int) ∧ (n : Int) ≤ 9223372036854775807 from by have := HN.out; omega)
  rw [ha9] at h9
  have HC9 := Lib.hid h9
  replace h9 := h9 _ (nextN (Mem.start w1) 1)
  rw [hnn]
  clear ha1 ha9 ha14 hnl hnn
  clear hnd h0 h18 hki hn0
  --RG4
  refine wp_region_noPanic ?_
  refine wp_heldG (fun W => Below w1.heap.size w1 W ∧ W.cell? ⟨ab, off + a9, none⟩ = some (.int .u8 (nd : Int))) [19] (by kernel_rfl) ?hs0 ?rg0
  case hs0 =>
    exact ⟨nextN (Mem.start w1) 1, h9⟩
  case rg0 =>
  intro hHeld
  refine wpAnyG_pure (i := 0) (oi := { dst := some 27, op := Op.move (Operand.tmp 0), type := 22, pos := _, after := #[], guard := none }) (v := ?_) rfl (by kernel_rfl) (by kernel_rfl) (by kernel_rfl) (by kernel_rfl) (fun _ _ _ h => h) (Or.inl ⟨by rfl, ?_⟩) (fun _ => by assumption) ?_
  rotate_left
  · intro w hSw
    try dsimp only at hSw
    go_simp
    try with_reducible rfl
  try simp only [Act.put, List.setIfInBounds_toArray, List.set_cons_zero, List.set_cons_succ]
  refine wpAnyG_pure (i := 1) (oi := { dst := some 28, op := Op.move (Operand.tmp 4), type := 3, pos := _, after := #[], guard := none }) (v := ?_) rfl (by kernel_rfl) (by kernel_rfl) (by kernel_rfl) (by kernel_rfl) (fun _ _ _ h => h) (Or.inl ⟨by rfl, ?_⟩) (fun _ => by assumption) ?_
  rotate_left
  · intro w hSw
    try dsimp only at hSw
    go_simp
    try with_reducible rfl
  try simp only [Act.put, List.setIfInBounds_toArray, List.set_cons_zero, List.set_cons_succ]
  refine wpAnyG_pure (i := 2) (oi := { dst := some 29, op := Op.binOp BinOp.add 3 (Operand.const (Value.int IntKind.i64 1)) (Operand.tmp 28) 3, type := 3, pos := _, after := #[{ on := 1, ground := Ground.data }], guard := none }) (v := ?_) rfl (by kernel_rfl) (by kernel_rfl) (by kernel_rfl) (by kernel_rfl) (fun _ _ _ h => h) (Or.inl ⟨by rfl, ?_⟩) (fun _ => by assumption) ?_
  rotate_left
  · intro w hSw
    try dsimp only at hSw
    refine exec_add (.const (.int .i64 1)) (.tmp 28) ?_ 1 (k : Int) ?_ ?_ a1 HK.out.1 (by have := HK.out; omega)
    · rfl
    · rfl
    · rfl
  try simp only [Act.put, List.setIfInBounds_toArray, List.set_cons_zero, List.set_cons_succ]
  refine wpAnyG_pure (i := 3) (oi := { dst := some 30, op := Op.slice 22 (Operand.tmp 27) (some (Operand.const (Value.int IntKind.i64 1))) (some (Operand.tmp 29)) none, type := 22, pos := _, after := #[{ on := 0, ground := Ground.data }, { on := 2, ground := Ground.data }], guard := none }) (v := ?_) rfl (by kernel_rfl) (by kernel_rfl) (by kernel_rfl) (by kernel_rfl) (fun _ _ _ h => h) (Or.inl ⟨by rfl, ?_⟩) (fun _ => by assumption) ?_
  rotate_left
  · intro w hSw
    try dsimp only at hSw
    go_simp
    try with_reducible rfl
  try simp only [Act.put, List.setIfInBounds_toArray, List.set_cons_zero, List.set_cons_succ]
  refine wpAnyG_pure (i := 4) (oi := { dst := some 31, op := Op.move (Operand.tmp 0), type := 22, pos := _, after := #[], guard := none }) (v := ?_) rfl (by kernel_rfl) (by kernel_rfl) (by kernel_rfl) (by kernel_rfl) (fun _ _ _ h => h) (Or.inl ⟨by rfl, ?_⟩) (fun _ => by assumption) ?_
  rotate_left
  · intro w hSw
    try dsimp only at hSw
    go_simp
    try with_reducible rfl
  try simp only [Act.put, List.setIfInBounds_toArray, List.set_cons_zero, List.set_cons_succ]
  refine wpAnyG_pure (i := 5) (oi := { dst := some 32, op := Op.move (Operand.tmp 4), type := 3, pos := _, after := #[], guard := none }) (v := ?_) rfl (by kernel_rfl) (by kernel_rfl) (by kernel_rfl) (by kernel_rfl) (fun _ _ _ h => h) (Or.inl ⟨by rfl, ?_⟩) (fun _ => by assumption) ?_
  rotate_left
  · intro w hSw
    try dsimp only at hSw
    go_simp
    try with_reducible rfl
  try simp only [Act.put, List.setIfInBounds_toArray, List.set_cons_zero, List.set_cons_succ]
  refine wpAnyG_pure (i := 6) (oi := { dst := some 33, op := Op.binOp BinOp.add 3 (Operand.const (Value.int IntKind.i64 9)) (Operand.tmp 32) 3, type := 3, pos := _, after := #[{ on := 5, ground := Ground.data }], guard := none }) (v := ?_) rfl (by kernel_rfl) (by kernel_rfl) (by kernel_rfl) (by kernel_rfl) (fun _ _ _ h => h) (Or.inl ⟨by rfl, ?_⟩) (fun _ => by assumption) ?_
  rotate_left
  · intro w hSw
    try dsimp only at hSw
    refine exec_add (.const (.int .i64 9)) (.tmp 32) ?_ 9 (k : Int) ?_ ?_ a9 HK.out.2.1 (by have := HK.out; omega)
    · rfl
    · rfl
    · rfl
  try simp only [Act.put, List.setIfInBounds_toArray, List.set_cons_zero, List.set_cons_succ]
  refine wpAnyG_pure (i := 7) (oi := { dst := some 34, op := Op.indexAddr 22 (Operand.tmp 31) (Operand.tmp 33), type := 0, pos := _, after := #[{ on := 4, ground := Ground.data }, { on := 6, ground := Ground.data }], guard := none }) (v := ?_) rfl (by kernel_rfl) (by kernel_rfl) (by kernel_rfl) (by kernel_rfl) (fun _ _ _ h => h) (Or.inl ⟨by rfl, ?_⟩) (fun _ => by assumption) ?_
  rotate_left
  · intro w hSw
    try dsimp only at hSw
    go_simp
    try with_reducible rfl
  try simp only [Act.put, List.setIfInBounds_toArray, List.set_cons_zero, List.set_cons_succ]
  refine wpAnyG_take (i := 8) (oi := { dst := some 35, op := Op.load 5 (Operand.tmp 34), type := 5, pos := _, after := #[{ on := 7, ground := Ground.data }], guard := none }) (v := ?_) rfl (by kernel_rfl) (by kernel_rfl) (by kernel_rfl) (by kernel_rfl) (fun _ _ _ h => h) (Or.inl ⟨by rfl, ?_⟩) (by assumption) ?_
  rotate_left
  · intro w hSw
    try dsimp only at hSw
    go_simp
    try with_reducible rfl
  try simp only [Act.put, List.setIfInBounds_toArray, List.set_cons_zero, List.set_cons_succ]
  refine wpAnyG_pure (i := 9) (oi := { dst := some 36, op := Op.convert 5 3 (Operand.tmp 35), type := 3, pos := _, after := #[{ on := 8, ground := Ground.data }], guard := none }) (v := ?_) rfl (by kernel_rfl) (by kernel_rfl) (by kernel_rfl) (by kernel_rfl) (fun _ _ _ h => h) (Or.inl ⟨by rfl, ?_⟩) (fun _ => by assumption) ?_
  rotate_left
  · intro w hSw
    try dsimp only at hSw
    go_simp
    try with_reducible rfl
  try simp only [Act.put, List.setIfInBounds_toArray, List.set_cons_zero, List.set_cons_succ]
  refine wpAnyG_pure (i := 10) (oi := { dst := some 37, op := Op.move (Operand.tmp 0), type := 22, pos := _, after := #[], guard := none }) (v := ?_) rfl (by kernel_rfl) (by kernel_rfl) (by kernel_rfl) (by kernel_rfl) (fun _ _ _ h => h) (Or.inl ⟨by rfl, ?_⟩) (fun _ => by assumption) ?_
  rotate_left
  · intro w hSw
    try dsimp only at hSw
    go_simp
    try with_reducible rfl
  try simp only [Act.put, List.setIfInBounds_toArray, List.set_cons_zero, List.set_cons_succ]
  refine wpAnyG_pure (i := 11) (oi := { dst := some 38, op := Op.move (Operand.tmp 4), type := 3, pos := _, after := #[], guard := none }) (v := ?_) rfl (by kernel_rfl) (by kernel_rfl) (by kernel_rfl) (by kernel_rfl) (fun _ _ _ h => h) (Or.inl ⟨by rfl, ?_⟩) (fun _ => by assumption) ?_
  rotate_left
  · intro w hSw
    try dsimp only at hSw
    go_simp
    try with_reducible rfl
  try simp only [Act.put, List.setIfInBounds_toArray, List.set_cons_zero, List.set_cons_succ]
  refine wpAnyG_pure (i := 12) (oi := { dst := some 39, op := Op.binOp BinOp.add 3 (Operand.const (Value.int IntKind.i64 14)) (Operand.tmp 38) 3, type := 3, pos := _, after := #[{ on := 11, ground := Ground.data }], guard := none }) (v := ?_) rfl (by kernel_rfl) (by kernel_rfl) (by kernel_rfl) (by kernel_rfl) (fun _ _ _ h => h) (Or.inl ⟨by rfl, ?_⟩) (fun _ => by assumption) ?_
  rotate_left
  · intro w hSw
    try dsimp only at hSw
    refine exec_add (.const (.int .i64 14)) (.tmp 38) ?_ 14 (k : Int) ?_ ?_ a14 HK.out.2.2.1 (by have := HK.out; omega)
    · rfl
    · rfl
    · rfl
  try simp only [Act.put, List.setIfInBounds_toArray, List.set_cons_zero, List.set_cons_succ]
  refine wpAnyG_pure (i := 13) (oi := { dst := some 40, op := Op.move (Operand.tmp 0), type := 22, pos := _, after := #[], guard := none }) (v := ?_) rfl (by kernel_rfl) (by kernel_rfl) (by kernel_rfl) (by kernel_rfl) (fun _ _ _ h => h) (Or.inl ⟨by rfl, ?_⟩) (fun _ => by assumption) ?_
  rotate_left
  · intro w hSw
    try dsimp only at hSw
    go_simp
    try with_reducible rfl
  try simp only [Act.put, List.setIfInBounds_toArray, List.set_cons_zero, List.set_cons_succ]
  refine wpAnyG_pure (i := 14) (oi := { dst := some 41, op := Op.call { callee := Callee.builtin Builtin.len, args := #[Operand.tmp 40], argTypes := #[22] }, type := 3, pos := _, after := #[{ on := 13, ground := Ground.data }], guard := none }) (v := ?_) rfl (by kernel_rfl) (by kernel_rfl) (by kernel_rfl) (by kernel_rfl) (fun _ _ _ h => h) (Or.inl ⟨by rfl, ?_⟩) (fun _ => by assumption) ?_
  rotate_left
  · intro w hSw
    try dsimp only at hSw
    go_simp
    try with_reducible rfl
  try simp only [Act.put, List.setIfInBounds_toArray, List.set_cons_zero, List.set_cons_succ]
  refine wpAnyG_pure (i := 15) (oi := { dst := some 42, op := Op.binOp BinOp.sub 3 (Operand.tmp 41) (Operand.const (Value.int IntKind.i64 4)) 3, type := 3, pos := _, after := #[{ on := 14, ground := Ground.data }], guard := none }) (v := ?_) rfl (by kernel_rfl) (by kernel_rfl) (by kernel_rfl) (by kernel_rfl) (fun _ _ _ h => h) (Or.inl ⟨by rfl, ?_⟩) (fun _ => by assumption) ?_
  rotate_left
  · intro w hSw
    try dsimp only at hSw
    refine exec_sub (.tmp 41) (.const (.int .i64 4)) ?_ (n : Int) 4 ?_ ?_ nl HK.out.2.2.2.1 (by have := HK.out; omega)
    · rfl
    · rfl
    · rfl
  try simp only [Act.put, List.setIfInBounds_toArray, List.set_cons_zero, List.set_cons_succ]
  refine wpAnyG_pure (i := 16) (oi := { dst := some 43, op := Op.slice 22 (Operand.tmp 37) (some (Operand.tmp 39)) (some (Operand.tmp 42)) none, type := 22, pos := _, after := #[{ on := 10, ground := Ground.data }, { on := 12, ground := Ground.data }, { on := 15, ground := Ground.data }], guard := none }) (v := ?_) rfl (by kernel_rfl) (by kernel_rfl) (by kernel_rfl) (by kernel_rfl) (fun _ _ _ h => h) (Or.inl ⟨by rfl, ?_⟩) (fun _ => by assumption) ?_
  rotate_left
  · intro w hSw
    try dsimp only at hSw
    go_simp
    try with_reducible rfl
  try simp only [Act.put, List.setIfInBounds_toArray, List.set_cons_zero, List.set_cons_succ]
  refine wpAnyG_pure (i := 17) (oi := { dst := some 44, op := Op.build 31 #[(0, Operand.tmp 30), (2, Operand.tmp 36), (3, Operand.tmp 43)], type := 31, pos := _, after := #[{ on := 3, ground := Ground.data }, { on := 9, ground := Ground.data }, { on := 16, ground := Ground.data }], guard := none }) (v := ?_) rfl (by kernel_rfl) (by kernel_rfl) (by kernel_rfl) (by kernel_rfl) (fun _ _ _ h => h) (Or.inl ⟨by rfl, ?_⟩) (fun _ => by assumption) ?_
  rotate_left
  · intro w hSw
    try dsimp only at hSw
    go_simp
    try with_reducible rfl
  try simp only [Act.put, List.setIfInBounds_toArray, List.set_cons_zero, List.set_cons_succ]
  refine wpAnyG_one (i := 18) (o := { dst := some 5, op := Op.alloc 31, type := 0, pos := _, after := #[], guard := none }) (by kernel_rfl) rfl (fun K hK => ?_)
  go_simp
  try dsimp only
  obtain ⟨w2, hw2⟩ : ∃ x : World, x = (w1.alloc (.cells #[.slice none 0 0, .int .i64 0, .int .i64 0, .slice none 0 0] 31)).drew := ⟨_, rfl⟩
  have hb12 : Below w1.heap.size w1 w2 := by rw [hw2]; exact (nextA (Mem.start w1) _).drew
  have HB2 := Lib.hid (show Blk w2 w1.heap.size 31 #[.slice none 0 0, .int .i64 0, .int .i64 0, .slice none 0 0] from by rw [hw2]; exact Blk.new w1 _ _)
  rw [← hw2]
  clear hw2
  refine hK.out _ _ ?_ (fun hHeld => ?_)
  · intro _
    try dsimp only
    exact ⟨hb12, (HC9.out _ hb12)⟩
  clear hK K
  try simp only [Act.put, List.setIfInBounds_toArray, List.set_cons_zero, List.set_cons_succ]
  have hHeld := hHeld (by kernel_rfl)
  refine wpAnyG_one (i := 19) (o := { dst := none, op := Op.store 31 (Operand.tmp 5) (Operand.tmp 44), type := 0, pos := _, after := #[{ on := 18, ground := Ground.data }, { on := 17, ground := Ground.data }, { on := 0, ground := Ground.phase }, { on := 1, ground := Ground.phase }, { on := 2, ground := Ground.phase }, { on := 3, ground := Ground.phase }, { on := 4, ground := Ground.phase }, { on := 5, ground := Ground.phase }, { on := 6, ground := Ground.phase }, { on := 7, ground := Ground.phase }, { on := 8, ground := Ground.phase }, { on := 9, ground := Ground.phase }, { on := 10, ground := Ground.phase }, { on := 11, ground := Ground.phase }, { on := 12, ground := Ground.phase }, { on := 13, ground := Ground.phase }, { on := 14, ground := Ground.phase }, { on := 15, ground := Ground.phase }, { on := 16, ground := Ground.phase }, { on := 17, ground := Ground.phase }, { on := 18, ground := Ground.phase }], guard := none }) (by kernel_rfl) rfl (fun K hK => ?_)
  refine step_store4r w2 rfl (.tmp 5) (.tmp 44) rfl w1.heap.size _ _ _ _ _ _ _ _ rfl rfl HB2.out (sh_one _ _ _ _ _ _ _ _) ?_
  intro w3 hB hf
  refine hK.out _ _ ?_ (fun hHeld => ?_)
  · exact fun h => (st_no (by kernel_rfl) h).elim
  clear hK K
  try simp only [Act.put, List.setIfInBounds_toArray, List.set_cons_zero, List.set_cons_succ]
  clear hHeld
  refine wpAnyG_done (by kernel_rfl) ?_ _
  refine NoPanic.normal ?_
  --END RG4
  rw [show a1 - 1 = k from by have := HL.out; omega, show nl - a14 = m from by have := HL.out; omega] at hB ⊢
  have hG : Rst w w3 w1.heap.size #[.slice (some ⟨ab, off + 1, none⟩) k (c - 1), .int .i64 (sgn (num ((b.drop (1 + k)).take 0))), .int .i64 (nd : Int), .slice (some ⟨ab, off + a14, none⟩) m (c - a14)] :=
    ⟨(next H1.out.1 hb12).trans (hf.below (Nat.le_trans H1.out.1.size hb12.size) (fun q e => by rw [e]; exact H1.out.1.size)), (H1.out.2.1.keep hb12).fr hf (fun e => by have := H1.out.2.2; omega), hB, by have := H1.out.2.2; omega⟩
  have H3 := Lib.hid hG
  have HG := Lib.hid (show w1.heap.size = w.heap.size + 1 from H1.out.2.2)
  have HF := Lib.hid (And.intro f3 (And.intro f5 f6'))
  clear hHeld hb12 HB2 hB hf hG h9 nd8 f0 f1 f2 f3 f4 f5 f6' f7 H1 HC9
  obtain ⟨g, hg⟩ : ∃ g, w1.heap.size = g := ⟨_, rfl⟩
  rw [hg] at H3 ⊢
  clear hg HG
  obtain ⟨cr, hcr⟩ : ∃ x, c - a14 = x := ⟨_, rfl⟩
  obtain ⟨ck, hck⟩ : ∃ x, c - 1 = x := ⟨_, rfl⟩
  rw [hcr, hck] at H3 ⊢
  clear hcr hck
  go_wp2_with fail
  go_loopw [6] (fun x wr => ∃ i : Nat, x = .int .i64 (i : Int) ∧ i ≤ 8 ∧ Rst w wr g #[.slice (some ⟨ab, off + 1, none⟩) k ck, .int .i64 (sgn (num ((b.drop (1 + k)).take i))), .int .i64 (nd : Int), .slice (some ⟨ab, off + a14, none⟩) m cr]) (fun x _ => 8 - (intOf x).toNat)
  case atStart => exact ⟨0, rfl, by omega, H3.out⟩
  case round =>
    obtain ⟨i, rfl, hi, h⟩ := hrel
    obtain ⟨w4, rfl⟩ : ∃ x : World, x = wr := ⟨_, rfl⟩
    by_cases hi8 : i < 8
    · have hii : (i : Int) < 8 := by omega
      obtain ⟨vi, hvi⟩ : ∃ x, sgn (num ((b.drop (1 + k)).take i)) = x := ⟨_, rfl⟩
      obtain ⟨ci, hci⟩ : ∃ x, (b.getD (1 + k + i) 0).toNat = x := ⟨_, rfl⟩
      obtain ⟨vs, hvs⟩ : ∃ x, IntKind.i64.wrap (vi * 256) = x := ⟨_, rfl⟩
      have hlt : 1 + k + i < b.length := by have := HN.out; omega
      have hvn := ver_sgn b (1 + k) i hi8 hlt vi vs ci hvi hci hvs
      have hc1 := byte_at (HA.out _ h.below) hlt
      rw [hci] at hc1
      have hc8 : (ci : Int) < 256 := by have := (b.getD (1 + k + i) 0).toNat_lt; omega
      have hc0 : IntKind.i64.wrap (ci : Int) = (ci : Int) := IntWalk.i64_in _ (by omega)
      obtain ⟨vn, hvn2⟩ : ∃ x, sgn (num ((b.drop (1 + k)).take (i + 1))) = x := ⟨_, rfl⟩
      rw [hvn2] at hvn
      rw [hvi] at h
      obtain ⟨ai, hai⟩ : ∃ x, 1 + k + i = x := ⟨_, rfl⟩
      rw [hai] at hc1
      have hai2 : (ai : Int) < (n : Int) := by have := HL.out; have := HN.out; omega
      have HI := Lib.hid (show 1 + (k : Int) = (a1 : Int) ∧ (a1 : Int) + (i : Int) = (ai : Int) ∧ (ai : Int) ≤ 9223372036854775807 ∧ (a1 : Int) ≤ 9223372036854775807 from by have := HL.out; have := HK.out; omega)
      have HV := Lib.hid hvn2
      have H4 := Lib.hid h
      have hv1 : w4.drew.cell? ⟨g, 1, none⟩ = some (.int .i64 vi) := h.var.cell 1
      have hz1 : w4.drew.frozen? ⟨g, 1, none⟩ = false := h.var.frozen 1
      replace hc1 : w4.drew.cell? ⟨ab, off + ai, none⟩ = some (.int .u8 (ci : Int)) := hc1
      clear h hvi hci hlt hvn2 hai
      go_wp2_with fail
      --RG8
      refine wp_region_noPanic ?_
      refine wp_heldG (fun W => W.cell? ⟨g, 1, none⟩ = some (.int .i64 vi) ∧ W.cell? ⟨ab, off + ai, none⟩ = some (.int .u8 (ci : Int)) ∧ W.frozen? ⟨g, 1, none⟩ = false) [13] (by kernel_rfl) ?hs0 ?rg0
      case hs0 =>
        exact ⟨hv1, hc1, hz1⟩
      case rg0 =>
      intro hHeld
      refine wpAnyG_pure (i := 0) (oi := { dst := some 49, op := Op.fieldAddr 31 (Operand.tmp 5) 1, type := 0, pos := _, after := #[], guard := none }) (v := ?_) rfl (by kernel_rfl) (by kernel_rfl) (by kernel_rfl) (by kernel_rfl) (fun _ _ _ h => h) (Or.inl ⟨by rfl, ?_⟩) (fun _ => by assumption) ?_
      rotate_left
      · intro w hSw
        try dsimp only at hSw
        go_simp
        try with_reducible rfl
      try simp only [Act.put, List.setIfInBounds_toArray, List.set_cons_zero, List.set_cons_succ]
      refine wpAnyG_take (i := 1) (oi := { dst := some 50, op := Op.load 2 (Operand.tmp 49), type := 2, pos := _, after := #[{ on := 0, ground := Ground.data }], guard := none }) (v := ?_) rfl (by kernel_rfl) (by kernel_rfl) (by kernel_rfl) (by kernel_rfl) (fun _ _ _ h => h) (Or.inl ⟨by rfl, ?_⟩) (by assumption) ?_
      rotate_left
      · intro w hSw
        try dsimp only at hSw
        go_simp
        try with_reducible rfl
      try simp only [Act.put, List.setIfInBounds_toArray, List.set_cons_zero, List.set_cons_succ]
      refine wpAnyG_pure (i := 2) (oi := { dst := some 51, op := Op.binOp BinOp.shl 2 (Operand.tmp 50) (Operand.const (Value.int IntKind.u64 8)) 59, type := 2, pos := _, after := #[{ on := 1, ground := Ground.data }], guard := none }) (v := ?_) rfl (by kernel_rfl) (by kernel_rfl) (by kernel_rfl) (by kernel_rfl) (fun _ _ _ h => h) (Or.inl ⟨by rfl, ?_⟩) (fun _ => by assumption) ?_
      rotate_left
      · intro w hSw
        try dsimp only at hSw
        go_simp
        try with_reducible rfl
      try simp only [Act.put, List.setIfInBounds_toArray, List.set_cons_zero, List.set_cons_succ]
      refine wpAnyG_pure (i := 3) (oi := { dst := some 52, op := Op.move (Operand.tmp 0), type := 22, pos := _, after := #[], guard := none }) (v := ?_) rfl (by kernel_rfl) (by kernel_rfl) (by kernel_rfl) (by kernel_rfl) (fun _ _ _ h => h) (Or.inl ⟨by rfl, ?_⟩) (fun _ => by assumption) ?_
      rotate_left
      · intro w hSw
        try dsimp only at hSw
        go_simp
        try with_reducible rfl
      try simp only [Act.put, List.setIfInBounds_toArray, List.set_cons_zero, List.set_cons_succ]
      refine wpAnyG_pure (i := 4) (oi := { dst := some 53, op := Op.move (Operand.tmp 4), type := 3, pos := _, after := #[], guard := none }) (v := ?_) rfl (by kernel_rfl) (by kernel_rfl) (by kernel_rfl) (by kernel_rfl) (fun _ _ _ h => h) (Or.inl ⟨by rfl, ?_⟩) (fun _ => by assumption) ?_
      rotate_left
      · intro w hSw
        try dsimp only at hSw
        go_simp
        try with_reducible rfl
      try simp only [Act.put, List.setIfInBounds_toArray, List.set_cons_zero, List.set_cons_succ]
      refine wpAnyG_pure (i := 5) (oi := { dst := some 54, op := Op.binOp BinOp.add 3 (Operand.const (Value.int IntKind.i64 1)) (Operand.tmp 53) 3, type := 3, pos := _, after := #[{ on := 4, ground := Ground.data }], guard := none }) (v := ?_) rfl (by kernel_rfl) (by kernel_rfl) (by kernel_rfl) (by kernel_rfl) (fun _ _ _ h => h) (Or.inl ⟨by rfl, ?_⟩) (fun _ => by assumption) ?_
      rotate_left
      · intro w hSw
        try dsimp only at hSw
        refine exec_add (.const (.int .i64 1)) (.tmp 53) ?_ 1 (k : Int) ?_ ?_ a1 HI.out.1 HI.out.2.2.2
        · rfl
        · rfl
        · rfl
      try simp only [Act.put, List.setIfInBounds_toArray, List.set_cons_zero, List.set_cons_succ]
      refine wpAnyG_pure (i := 6) (oi := { dst := some 55, op := Op.move (Operand.tmp 6), type := 3, pos := _, after := #[], guard := none }) (v := ?_) rfl (by kernel_rfl) (by kernel_rfl) (by kernel_rfl) (by kernel_rfl) (fun _ _ _ h => h) (Or.inl ⟨by rfl, ?_⟩) (fun _ => by assumption) ?_
      rotate_left
      · intro w hSw
        try dsimp only at hSw
        go_simp
        try with_reducible rfl
      try simp only [Act.put, List.setIfInBounds_toArray, List.set_cons_zero, List.set_cons_succ]
      refine wpAnyG_pure (i := 7) (oi := { dst := some 56, op := Op.binOp BinOp.add 3 (Operand.tmp 54) (Operand.tmp 55) 3, type := 3, pos := _, after := #[{ on := 5, ground := Ground.data }, { on := 6, ground := Ground.data }], guard := none }) (v := ?_) rfl (by kernel_rfl) (by kernel_rfl) (by kernel_rfl) (by kernel_rfl) (fun _ _ _ h => h) (Or.inl ⟨by rfl, ?_⟩) (fun _ => by assumption) ?_
      rotate_left
      · intro w hSw
        try dsimp only at hSw
        refine exec_add (.tmp 54) (.tmp 55) ?_ (a1 : Int) (i : Int) ?_ ?_ ai HI.out.2.1 HI.out.2.2.1
        · rfl
        · rfl
        · rfl
      try simp only [Act.put, List.setIfInBounds_toArray, List.set_cons_zero, List.set_cons_succ]
      refine wpAnyG_pure (i := 8) (oi := { dst := some 57, op := Op.indexAddr 22 (Operand.tmp 52) (Operand.tmp 56), type := 0, pos := _, after := #[{ on := 3, ground := Ground.data }, { on := 7, ground := Ground.data }], guard := none }) (v := ?_) rfl (by kernel_rfl) (by kernel_rfl) (by kernel_rfl) (by kernel_rfl) (fun _ _ _ h => h) (Or.inl ⟨by rfl, ?_⟩) (fun _ => by assumption) ?_
      rotate_left
      · intro w hSw
        try dsimp only at hSw
        go_simp
        try with_reducible rfl
      try simp only [Act.put, List.setIfInBounds_toArray, List.set_cons_zero, List.set_cons_succ]
      refine wpAnyG_take (i := 9) (oi := { dst := some 58, op := Op.load 5 (Operand.tmp 57), type := 5, pos := _, after := #[{ on := 8, ground := Ground.data }], guard := none }) (v := ?_) rfl (by kernel_rfl) (by kernel_rfl) (by kernel_rfl) (by kernel_rfl) (fun _ _ _ h => h) (Or.inl ⟨by rfl, ?_⟩) (by assumption) ?_
      rotate_left
      · intro w hSw
        try dsimp only at hSw
        go_simp
        try with_reducible rfl
      try simp only [Act.put, List.setIfInBounds_toArray, List.set_cons_zero, List.set_cons_succ]
      refine wpAnyG_pure (i := 10) (oi := { dst := some 59, op := Op.convert 5 2 (Operand.tmp 58), type := 2, pos := _, after := #[{ on := 9, ground := Ground.data }], guard := none }) (v := ?_) rfl (by kernel_rfl) (by kernel_rfl) (by kernel_rfl) (by kernel_rfl) (fun _ _ _ h => h) (Or.inl ⟨by rfl, ?_⟩) (fun _ => by assumption) ?_
      rotate_left
      · intro w hSw
        try dsimp only at hSw
        go_simp
        try with_reducible rfl
      try simp only [Act.put, List.setIfInBounds_toArray, List.set_cons_zero, List.set_cons_succ]
      refine wpAnyG_pure (i := 11) (oi := { dst := some 60, op := Op.binOp BinOp.add 2 (Operand.tmp 51) (Operand.tmp 59) 2, type := 2, pos := _, after := #[{ on := 2, ground := Ground.data }, { on := 10, ground := Ground.data }], guard := none }) (v := ?_) rfl (by kernel_rfl) (by kernel_rfl) (by kernel_rfl) (by kernel_rfl) (fun _ _ _ h => h) (Or.inl ⟨by rfl, ?_⟩) (fun _ => by assumption) ?_
      rotate_left
      · intro w hSw
        try dsimp only at hSw
        go_simp
        try with_reducible rfl
      try simp only [Act.put, List.setIfInBounds_toArray, List.set_cons_zero, List.set_cons_succ]
      refine wpAnyG_pure (i := 12) (oi := { dst := some 61, op := Op.fieldAddr 31 (Operand.tmp 5) 1, type := 0, pos := _, after := #[{ on := 0, ground := Ground.phase }, { on := 1, ground := Ground.phase }, { on := 2, ground := Ground.phase }, { on := 3, ground := Ground.phase }, { on := 4, ground := Ground.phase }, { on := 5, ground := Ground.phase }, { on := 6, ground := Ground.phase }, { on := 7, ground := Ground.phase }, { on := 8, ground := Ground.phase }, { on := 9, ground := Ground.phase }, { on := 10, ground := Ground.phase }, { on := 11, ground := Ground.phase }], guard := none }) (v := ?_) rfl (by kernel_rfl) (by kernel_rfl) (by kernel_rfl) (by kernel_rfl) (fun _ _ _ h => h) (Or.inl ⟨by rfl, ?_⟩) (fun _ => by assumption) ?_
      rotate_left
      · intro w hSw
        try dsimp only at hSw
        go_simp
        try with_reducible rfl
      try simp only [Act.put, List.setIfInBounds_toArray, List.set_cons_zero, List.set_cons_succ]
      refine wpAnyG_one (i := 13) (o := { dst := none, op := Op.store 2 (Operand.tmp 61) (Operand.tmp 60), type := 0, pos := _, after := #[{ on := 12, ground := Ground.data }, { on := 11, ground := Ground.data }, { on := 0, ground := Ground.phase }, { on := 1, ground := Ground.phase }, { on := 2, ground := Ground.phase }, { on := 3, ground := Ground.phase }, { on := 4, ground := Ground.phase }, { on := 5, ground := Ground.phase }, { on := 6, ground := Ground.phase }, { on := 7, ground := Ground.phase }, { on := 8, ground := Ground.phase }, { on := 9, ground := Ground.phase }, { on := 10, ground := Ground.phase }, { on := 11, ground := Ground.phase }], guard := none }) (by kernel_rfl) rfl (fun K hK => ?_)
      have z0 := hHeld.2.2
      have cc0 := hHeld.1
      go_simp
      clear z0 cc0
      try dsimp only
      refine hK.out _ _ ?_ (fun hHeld => ?_)
      · exact fun h => (st_no (by kernel_rfl) h).elim
      clear hK K
      try simp only [Act.put, List.setIfInBounds_toArray, List.set_cons_zero, List.set_cons_succ]
      clear hHeld
      refine wpAnyG_done (by kernel_rfl) ?_ _
      refine NoPanic.normal ?_
      --END RG8
      go_wp2_with fail
      go_roundw
      case rel => exact ⟨i + 1, by simp, by omega, by rw [HV.out]; exact (H4.out.keep (nextN (Mem.start w4) 1)).set 1 (.int .i64 vn)⟩
      case measure => simp [intOf]; omega
    · obtain rfl : i = 8 := by omega
      clear hHeld H3
      have hA4 := HA.out _ h.below
      have hpar : parse b = ⟨(b.drop 1).take k, sgn (num ((b.drop (1 + k)).take 8)), (nd : Int), (b.drop (14 + k)).take m⟩ := by
        have h1 := HN.out
        have h2 := HND.out
        have hrow : (b.take (b.length - 4)).drop (14 + k) = (b.drop (14 + k)).take m := by
          rw [List.drop_take]; congr 1; omega
        unfold parse
        rw [h1.2.1, num_one b (9 + k) H9.out, h2, hrow]
      have hp1 : (parse b).key.length = k := by rw [hpar]; show ((b.drop 1).take k).length = k; rw [List.length_take, List.length_drop]; have := HN.out; omega
      have hp2 : (parse b).row.length = m := by rw [hpar]; show ((b.drop (14 + k)).take m).length = m; rw [List.length_take, List.length_drop]; have := HN.out; omega
      have hpk : ∀ W, Below w.heap.size w W → Bytes W M (some ⟨ab, off + 1, none⟩) (parse b).key ∧ Bytes W M (some ⟨ab, off + a14, none⟩) (parse b).row := fun W hW => by
        have h1 := HA.out W hW
        rw [hpar, ← HL.out.2.2.1]
        exact ⟨(h1.drop 1).take k, (h1.drop (14 + k)).take m⟩
      have hvb : (parse b).ver ≤ 9223372036854775807 := by
        rw [hpar]
        have h1 : num ((b.drop (1 + k)).take 8) < 18446744073709551616 := ver_lt b (1 + k) 8
        show sgn _ ≤ _
        unfold sgn; split <;> omega
      have hMw : M ≤ w4.heap.size := Nat.le_trans HMM.out h.below.size
      have hp := rput_any w4 (parse b) hvb (some ⟨ab, off + 1, none⟩) (some ⟨ab, off + a14, none⟩) k ck m cr hp1 hp2 ((hpk _ h.below).1.up hMw) ((hpk _ h.below).2.up hMw)
      rw [show (parse b).node = (nd : Int) from by rw [hpar]] at hp
      obtain ⟨vr, hvr⟩ : ∃ x, (parse b).ver = x := ⟨_, rfl⟩
      rw [hvr] at hp
      rw [show sgn (num ((b.drop (1 + k)).take 8)) = vr from by rw [← hvr, hpar]] at h
      have HP := Lib.hid hp
      have HPK := Lib.hid hpk
      have HPA := Lib.hid (And.intro hp1 (And.intro hp2 (And.intro hvr (And.intro (show (parse b).node = (nd : Int) from by rw [hpar]) hvb))))
      have H4 := Lib.hid h
      obtain ⟨c0, c1, c2, c3⟩ := cells4 h.var
      clear hpar hp1 hp2 hpk hvb hMw hp hvr h hA4
      go_wp2_with fail
      refine HP.out.mono ?_
      rintro e w5 hp
      obtain ⟨A1, c1', rfl, hA1, hb⟩ := putR_of hp
      clear hp c0 c1 c2 c3
      have H5 := Lib.hid (H4.out.keep hb)
      have h5 := H4.out.keep hb
      obtain ⟨c0, c1, c2, c3⟩ := cells4 h5.var
      obtain ⟨x0, x1, x2, x3⟩ := cells4 h5.r0
      have y0 := h5.r0.frozen 0
      have y1 := h5.r0.frozen 1
      have y2 := h5.r0.frozen 2
      have y3 := h5.r0.frozen 3
      have hs2 := convB (HA.out _ h5.below) n c (by have := HL.out; have := HN.out; omega)
      clear hb h5
      unfold putR at hA1 ⊢
      by_cases hmay : (parse b).may = true
      · rw [if_pos hmay] at hA1 ⊢
        dsimp only at hA1 ⊢
        have hs1 := convB hA1 _ c1' rfl
        have HMY := Lib.hid hmay
        have hse : ((str (parse b).put).toList == (str b).toList) = decide ((parse b).put = b) := str_beq _ _
        obtain ⟨pl, hpl⟩ : ∃ x, (parse b).put.length = x := ⟨_, rfl⟩
        obtain ⟨s1, hs1'⟩ : ∃ x, str (parse b).put = x := ⟨_, rfl⟩
        obtain ⟨s2, hs2'⟩ : ∃ x, str b = x := ⟨_, rfl⟩
        rw [hs1', hpl] at hs1
        rw [hs1'] at hse
        rw [hs2'] at hs2 hse
        rw [hpl]
        have hbl : ∀ v0 v1 v2 v3, Below w.heap.size w ((((w5.setCell ⟨w.heap.size, 0, none⟩ v0).setCell ⟨w.heap.size, 1, none⟩ v1).setCell ⟨w.heap.size, 2, none⟩ v2).setCell ⟨w.heap.size, 3, none⟩ v3) := fun v0 v1 v2 v3 => (((H5.out.below.setCell (p := ⟨w.heap.size, 0, none⟩) (Nat.le_refl _) _).setCell (p := ⟨w.heap.size, 1, none⟩) (Nat.le_refl _) _).setCell (p := ⟨w.heap.size, 2, none⟩) (Nat.le_refl _) _).setCell (p := ⟨w.heap.size, 3, none⟩) (Nat.le_refl _) _
        have HBL := Lib.hid hbl
        clear hA1 hmay hpl hs1' hs2' hbl
        by_cases heq : (parse b).put = b
        · rw [decide_eq_true heq] at hse
          have HEQ := Lib.hid heq
          clear heq
          go_wp2_with fail
          refine bodyPost_ret (v := .tuple #[.agg #[.slice (some ⟨ab, off + 1, none⟩) k ck, .int .i64 vr, .int .i64 (nd : Int), .slice (some ⟨ab, off + a14, none⟩) m cr], .int .i64 0]) (by simp [results, Try.results21, go_sem, x0, x1, x2, x3]) rfl ⟨.inl ⟨parse b, some ⟨ab, off + 1, none⟩, ck, some ⟨ab, off + a14, none⟩, cr, ⟨HMY.out, HEQ.out, HPA.out.2.2.2.2⟩, ?_, (HPK.out _ (HBL.out _ _ _ _)).1, (HPK.out _ (HBL.out _ _ _ _)).2⟩, HBL.out _ _ _ _⟩
          rw [HPA.out.1, HPA.out.2.1, HPA.out.2.2.1, HPA.out.2.2.2.1]
        · rw [decide_eq_false heq] at hse
          have HEQ := Lib.hid heq
          clear heq
          go_wp2_with fail
          refine bodyPost_ret (v := .tuple #[.agg zsh, .int .i64 160]) (by simp [results, Try.results21, go_sem, zsh, x0, x1, x2, x3]) rfl ⟨.inr ⟨fun s hs => HEQ.out (by rw [(parse_share hs).2]; exact hs.2.1), rfl⟩, HBL.out _ _ _ _⟩
      · rw [if_neg hmay] at hA1 ⊢
        have HMY := Lib.hid hmay
        clear hmay hA1 hs2
        go_wp2_with fail
        refine bodyPost_ret (v := .tuple #[.agg zsh, .int .i64 160]) (by simp [results, Try.results21, go_sem, zsh, x0, x1, x2, x3]) rfl ⟨.inr ⟨fun s hs => HMY.out (by rw [(parse_share hs).2]; exact hs.1), rfl⟩, ?_⟩
        exact (((H5.out.below.setCell (p := ⟨w.heap.size, 0, none⟩) (Nat.le_refl _) _).setCell (p := ⟨w.heap.size, 1, none⟩) (Nat.le_refl _) _).setCell (p := ⟨w.heap.size, 2, none⟩) (Nat.le_refl _) _).setCell (p := ⟨w.heap.size, 3, none⟩) (Nat.le_refl _) _
theorem rget_any (w : World) (A : Option Addr) (b : List UInt8) (n c M : Nat) (hn : b.length = n) (hmx : n ≤ 2 * 256 ^ 2) (hcap : n ≤ c) (hM : M ≤ w.heap.size) (hA : Bytes w M A b) : Calls Try.prog 21 #[.slice A n c] w (GetR w M b) := by
  by_cases h18 : n < 18
  · exact rget_short w A b n c M hn h18
  obtain ⟨ab, off, rfl, _⟩ : ∃ ab off, A = some ⟨ab, off, none⟩ ∧ ab < M := by obtain ⟨b', off, h, h', _⟩ := hA (by rw [List.length_map]; omega); exact ⟨b', off, h, h'⟩
  by_cases hk : n < pk b + 18
  · exact rget_low w ab off b n c M hn (by omega) hk hM hA
  obtain ⟨m, rfl⟩ : ∃ m, n = 18 + pk b + m := ⟨n - (18 + pk b), by omega⟩
  exact rget_long w ab off b (pk b) m c M hn (by omega) rfl (by omega) hM hA
end Go.Proofs.Ytlmcmcafbepjmaa.ShW
