/- slices.Delete of one element of a row of slices. -/
import Derived.Test.YtdgaicnnaidkkaaNtSend
import Derived.Test.YtdgaicnnaidkkaaLay
namespace Go.Proofs.Ytdgaicnnaidkkaa.NtW
open Go.RowKit Go.Shelf Mem Rng
set_option linter.unusedVariables false

theorem zeroS (w : World) : (zeroValue 22).run Try.prog w = .ok (.slice none 0 0) w := by kernel_rfl
set_option maxRecDepth 100000 in
set_option maxHeartbeats 4000000 in
theorem delete_any (w : World) (base g c i n : Nat) (xs : List Value) (h1 : ∀ v ∈ xs, v.oneCell' = true) (h : Mem.Own w base 22 (some ⟨g, 0, none⟩) c xs) (hi : i < n) (hn : n = xs.length) :
    Calls Try.prog 21 #[.slice (some ⟨g, 0, none⟩) n c, .int .i64 (i : Int), .int .i64 ((i : Int) + 1)] w fun e w' => e = .returned (.slice (some ⟨g, 0, none⟩) (n - 1) c) ∧ Mem.Own w' base 22 (some ⟨g, 0, none⟩) c (xs.eraseIdx i) ∧ Fr (fun k => k = g) w w' := by
  obtain ⟨i0, hi0, hz0, hz1, hz2⟩ := info_parts msinfo
  have hle : n ≤ c := by rw [hn]; exact h.le
  have hmax := h.max
  unfold maxLen at hmax
  obtain ⟨news, hnews⟩ : ∃ news, xs.drop (i + 1) = news := ⟨_, rfl⟩
  have hnl : news.length = n - (i + 1) := by rw [← hnews, List.length_drop, hn]
  obtain ⟨A0, hA, hsrc⟩ : ∃ A0 : Addr, (if c = i + 1 then some (⟨g, 0, none⟩ : Addr) else some ⟨g, i + 1, none⟩) = some A0 ∧ Hid (∀ t u, news[t]? = some u → w.drew.cell? (A0.add t) = some u) := by
    by_cases hc : c = i + 1
    · refine ⟨⟨g, 0, none⟩, by simp [hc], fun t u hu => ?_⟩
      have := (List.getElem?_eq_some_iff.1 hu).1
      omega
    · refine ⟨⟨g, i + 1, none⟩, by simp [hc], fun t u hu => ?_⟩
      rw [Addr.add_lit]
      rw [← hnews, List.getElem?_drop] at hu
      exact h.get hu
  obtain ⟨m, hm⟩ : ∃ m, n - (i + 1) = m := ⟨_, rfl⟩
  have HS := Lib.hid hsrc.out
  have HO := Lib.hid (h.keep (nextN (Mem.start w) 1))
  have HN := Lib.hid (show news.length = m * 1 ∧ (∀ u ∈ news, u.oneCell' = true) ∧ i + news.length ≤ xs.length from ⟨by omega, fun u hu => h1 u (by rw [← hnews] at hu; exact List.mem_of_mem_drop hu), by omega⟩)
  have HX := Lib.hid (And.intro hnews (And.intro hn (And.intro hm hi)))
  have h2 : (i : Int) < (n : Int) := by omega
  have h3 : (n : Int) ≤ (c : Int) := by omega
  have h4 : (c : Int) ≤ 9223372036854775807 := by omega
  have hne : ((i : Int) == (i : Int) + 1) = false := by simp; omega
  have hic : i ≤ c := by omega
  have hjc : i + 1 ≤ c := by omega
  have hjn : i + 1 ≤ n := by omega
  have HSP := Lib.hid (show ∀ t, t < news.length → (w.drew.cell? ⟨g, 0 + i * 1 + t, none⟩).isSome = true ∧ w.drew.frozen? ⟨g, 0 + i * 1 + t, none⟩ = false from fun t ht => by
    rw [Nat.zero_add, Nat.mul_one]; exact HO.out.spare (by have := HN.out.2.2; omega))
  obtain ⟨W1, hW1⟩ : ∃ W1, W1 = w.drew.setCells g (0 + i * 1) news := ⟨_, rfl⟩
  have HW := Lib.hid hW1
  have HO1 := Lib.hid (show Mem.Own W1 base 22 (some ⟨g, 0, none⟩) c (layL xs i news) from by rw [hW1, Nat.zero_add, Nat.mul_one]; exact HO.out.lays news xs i HN.out.2.2)
  have HF1 := Lib.hid (show Fr (fun k => k = g) w W1 from by rw [hW1]; exact Fr.lays news _ ((Fr.refl _ w).drewN 1) rfl)
  have hcl : ∀ ty, (Builtin.clear_ #[30] ty #[.slice (some ⟨g, i + m, none⟩) 1 (c - (i + m))]).run Try.prog W1 = .ok (.tuple #[]) (W1.setCells g (i + m) (List.replicate 1 (.slice none 0 0))) :=
    fun ty => Lib.run_clear_slice W1 30 22 ty _ Try.underlying30 zeroS rfl rfl g (i + m) 1 _ (by omega) (fun t ht => (HO1.out.spare (by rw [layL_len]; omega)).1) (fun t ht => (HO1.out.spare (by rw [layL_len]; omega)).2)
  have him : i + m ≤ n := by omega
  have him1 : n - (i + m) = 1 := by omega
  have hi1n : (i : Int) + 1 ≤ (n : Int) := by omega
  have hi10 : (0 : Int) ≤ (i : Int) + 1 := by omega
  have himi : (i : Int) + (m : Int) ≤ (n : Int) := by omega
  have him0 : (0 : Int) ≤ (i : Int) + (m : Int) := by omega
  clear h hsrc hnews hn hnl h1 hW1
  go_enter Try.func21, Try.ntmps21
  go_wp2_with fail
  --HELD del5
  refine wp_region_noPanic ?_
  refine wp_heldG (fun _ => True) [] (by kernel_rfl) ?hs0 ?rg0
  case hs0 =>
    trivial
  case rg0 =>
  intro hHeld
  refine wpAnyG_pure (i := 0) (oi := { dst := some 20, op := Op.move (Operand.tmp 0), type := 30, pos := _, after := #[], guard := none }) (v := ?_) rfl (by kernel_rfl) (by kernel_rfl) (by kernel_rfl) (by kernel_rfl) (fun _ _ _ h => h) (Or.inl ⟨by rfl, ?_⟩) (fun _ => by assumption) ?_
  rotate_left
  · intro w hSw
    try dsimp only at hSw
    go_simp
    try with_reducible rfl
  try simp only [Act.put, List.setIfInBounds_toArray, List.set_cons_zero, List.set_cons_succ]
  refine wpAnyG_pure (i := 1) (oi := { dst := some 21, op := Op.move (Operand.tmp 1), type := 3, pos := _, after := #[], guard := none }) (v := ?_) rfl (by kernel_rfl) (by kernel_rfl) (by kernel_rfl) (by kernel_rfl) (fun _ _ _ h => h) (Or.inl ⟨by rfl, ?_⟩) (fun _ => by assumption) ?_
  rotate_left
  · intro w hSw
    try dsimp only at hSw
    go_simp
    try with_reducible rfl
  try simp only [Act.put, List.setIfInBounds_toArray, List.set_cons_zero, List.set_cons_succ]
  refine wpAnyG_pure (i := 2) (oi := { dst := some 22, op := Op.slice 30 (Operand.tmp 20) none (some (Operand.tmp 21)) none, type := 30, pos := _, after := #[{ on := 0, ground := Ground.data }, { on := 1, ground := Ground.data }], guard := none }) (v := ?_) rfl (by kernel_rfl) (by kernel_rfl) (by kernel_rfl) (by kernel_rfl) (fun _ _ _ h => h) (Or.inl ⟨by rfl, ?_⟩) (fun _ => by assumption) ?_
  rotate_left
  · intro w hSw
    try dsimp only at hSw
    go_simp
    try with_reducible rfl
  try simp only [Act.put, List.setIfInBounds_toArray, List.set_cons_zero, List.set_cons_succ]
  refine wpAnyG_pure (i := 3) (oi := { dst := some 23, op := Op.move (Operand.tmp 0), type := 30, pos := _, after := #[], guard := none }) (v := ?_) rfl (by kernel_rfl) (by kernel_rfl) (by kernel_rfl) (by kernel_rfl) (fun _ _ _ h => h) (Or.inl ⟨by rfl, ?_⟩) (fun _ => by assumption) ?_
  rotate_left
  · intro w hSw
    try dsimp only at hSw
    go_simp
    try with_reducible rfl
  try simp only [Act.put, List.setIfInBounds_toArray, List.set_cons_zero, List.set_cons_succ]
  refine wpAnyG_pure (i := 4) (oi := { dst := some 24, op := Op.move (Operand.tmp 2), type := 3, pos := _, after := #[], guard := none }) (v := ?_) rfl (by kernel_rfl) (by kernel_rfl) (by kernel_rfl) (by kernel_rfl) (fun _ _ _ h => h) (Or.inl ⟨by rfl, ?_⟩) (fun _ => by assumption) ?_
  rotate_left
  · intro w hSw
    try dsimp only at hSw
    go_simp
    try with_reducible rfl
  try simp only [Act.put, List.setIfInBounds_toArray, List.set_cons_zero, List.set_cons_succ]
  refine wpAnyG_pure (i := 5) (oi := { dst := some 25, op := Op.slice 30 (Operand.tmp 23) (some (Operand.tmp 24)) none none, type := 30, pos := _, after := #[{ on := 3, ground := Ground.data }, { on := 4, ground := Ground.data }], guard := none }) (v := ?_) rfl (by kernel_rfl) (by kernel_rfl) (by kernel_rfl) (by kernel_rfl) (fun _ _ _ h => h) (Or.inl ⟨by rfl, ?_⟩) (fun _ => by assumption) ?_
  rotate_left
  · intro w hSw
    try dsimp only at hSw
    go_simp
    try with_reducible rfl
  try simp only [Act.put, List.setIfInBounds_toArray, List.set_cons_zero, List.set_cons_succ]
  refine wpAnyG_one (i := 6) (o := { dst := some 26, op := Op.call { callee := Callee.builtin Builtin.append, args := #[Operand.tmp 22, Operand.tmp 25], argTypes := #[30, 30] }, type := 30, pos := _, after := #[{ on := 2, ground := Ground.data }, { on := 5, ground := Ground.data }], guard := none }) (by kernel_rfl) rfl (fun K hK => ?_)
  refine step_append_room rfl (.tmp 22) (.tmp 25) 30 (by rfl) 22 i0 1 Try.underlying30 hi0 hz1 g 0 i c (by simp [Act.eval, Act.put]) A0 m (c - (i + 1)) news (by simp [Act.eval, Act.put]) HN.out.1 HS.out HN.out.2.1 (by omega) HSP.out ?_
  rw [← HW.out]
  try dsimp only
  refine hK.out _ _ ?_ (fun hHeld => ?_)
  · intro _
    try dsimp only
    all_goals trivial
  clear hK K
  try simp only [Act.put, List.setIfInBounds_toArray, List.set_cons_zero, List.set_cons_succ]
  have hHeld := hHeld (by kernel_rfl)
  refine wpAnyG_pure (i := 7) (oi := { dst := some 0, op := Op.assign (Operand.tmp 26), type := 30, pos := _, after := #[{ on := 6, ground := Ground.data }, { on := 6, ground := Ground.chain }, { on := 0, ground := Ground.phase }, { on := 1, ground := Ground.phase }, { on := 2, ground := Ground.phase }, { on := 3, ground := Ground.phase }, { on := 4, ground := Ground.phase }, { on := 5, ground := Ground.phase }, { on := 6, ground := Ground.phase }], guard := none }) (v := ?_) rfl (by kernel_rfl) (by kernel_rfl) (by kernel_rfl) (by kernel_rfl) (fun _ _ _ h => h) (Or.inl ⟨by rfl, ?_⟩) (fun _ => by assumption) ?_
  rotate_left
  · intro w hSw
    try dsimp only at hSw
    go_simp
    try with_reducible rfl
  try simp only [Act.put, List.setIfInBounds_toArray, List.set_cons_zero, List.set_cons_succ]
  refine wpAnyG_done (by kernel_rfl) ?_ _
  refine NoPanic.normal ?_
  --END del5
  go_wp2_with fail
  go_ret
  have hlen : i + m = xs.length - 1 := by have := HX.out.2.1; omega
  refine ⟨?_, ?_, Fr.lays _ _ HF1.out rfl⟩
  · rw [show i + m = n - 1 from by omega]; rfl
  · have h2 := (HO1.out.lays (List.replicate 1 (.slice none 0 0)) _ (i + m) (by rw [layL_len, List.length_replicate]; have := HX.out.2.1; omega)).take (xs.length - 1)
    rw [← HX.out.1, hlen] at h2
    have e := lay_del xs i (.slice none 0 0) (by have := HX.out.2; omega)
    rw [show [Value.slice none 0 0] = List.replicate 1 (Value.slice none 0 0) from rfl] at e
    rw [e] at h2
    rw [hlen]; exact h2
end Go.Proofs.Ytdgaicnnaidkkaa.NtW
