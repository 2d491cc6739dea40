/- Messages there and back: what is put is got, what is got is put. Plain. -/
import Derived.Test.YtebdmfmadbikaaaDoorWf
namespace Go.Proofs.YtebdmfmadbikaaaDoor.Wi
open Fds

theorem cut_app {n : Nat} {a r : List UInt8} (h : a.length = n) : cut n (a ++ r) = some (a, r) := by
  unfold cut
  rw [if_pos (by simp; omega), List.take_left' h, List.drop_left' h]
theorem rnum_be {n v : Nat} {r : List UInt8} (h : v < 256 ^ n) : rnum n (be n v ++ r) = some (v, r) := by
  unfold rnum
  rw [cut_app (be_len _ _), Option.map_some, num_be, Nat.mod_eq_of_lt h]
theorem rtxt_txt {s r : List UInt8} (h : s.length < 256) : rtxt (txt s ++ r) = some (s, r) := by
  unfold rtxt txt
  rw [List.append_assoc, rnum_be (by simpa using h), Option.bind_some]
  exact cut_app rfl
theorem sgn_nat {n : Int} (h0 : 0 ≤ n) (h1 : n ≤ 4611686018427387904) : sgn n.toNat = n := by
  unfold sgn; rw [if_pos (by omega)]; omega
theorem lt8 {n : Int} (h1 : n ≤ 4611686018427387904) : n.toNat < 256 ^ 8 := by
  have : (256 : Nat) ^ 8 = 18446744073709551616 := by decide
  omega
theorem rid_put {x : List UInt8 × Int} {r : List UInt8} (h : x.1.length ≤ 64 ∧ 0 ≤ x.2 ∧ x.2 ≤ 4611686018427387904) : rid (txt x.1 ++ be 8 x.2.toNat ++ r) = some (x, r) := by
  unfold rid
  rw [List.append_assoc, rtxt_txt (by omega), Option.bind_some]
  dsimp only
  rw [rnum_be (lt8 h.2.2), Option.map_some, sgn_nat h.2.1 h.2.2]
theorem rids_put : ∀ (xs : List (List UInt8 × Int)) (r : List UInt8), (∀ x ∈ xs, x.1.length ≤ 64 ∧ 0 ≤ x.2 ∧ x.2 ≤ 4611686018427387904) → rids xs.length ((xs.flatMap fun x => txt x.1 ++ be 8 x.2.toNat) ++ r) = some (xs, r)
  | [], r, _ => rfl
  | x :: xs, r, h => by
    simp only [List.length_cons, rids, List.flatMap_cons]
    rw [List.append_assoc (txt x.1 ++ be 8 x.2.toNat), rid_put (h x (by simp)), Option.bind_some]
    dsimp only
    rw [rids_put xs r fun y hy => h y (by simp [hy])]
    rfl
theorem rnodes_put : ∀ (xs : List Int) (r : List UInt8), (∀ x ∈ xs, 0 ≤ x ∧ x ≤ 254) → rnodes xs.length ((xs.flatMap fun n => be 2 n.toNat) ++ r) = some (xs, r)
  | [], r, _ => rfl
  | x :: xs, r, h => by
    have h1 := h x (by simp)
    simp only [List.length_cons, rnodes, List.flatMap_cons]
    rw [List.append_assoc (be 2 x.toNat), rnum_be (by have : (256 : Nat) ^ 2 = 65536 := by decide
                                                      omega), Option.bind_some]
    dsimp only
    rw [rnodes_put xs r fun y hy => h y (by simp [hy]), Option.map_some]
    rw [show ((x.toNat : Nat) : Int) = x by omega]
/-- One message's fields in another one. -/
def mix (a m : Msg) (fs : List Nat) : Msg where
  kind := a.kind
  frm := a.frm
  to_ := a.to_
  req := if 0 ∈ fs then m.req else a.req
  key := if 1 ∈ fs then m.key else a.key
  ver := if 2 ∈ fs then m.ver else a.ver
  inc := if 3 ∈ fs then m.inc else a.inc
  size := if 4 ∈ fs then m.size else a.size
  code := if 5 ∈ fs then m.code else a.code
  node := if 6 ∈ fs then m.node else a.node
  back := if 7 ∈ fs then m.back else a.back
  ids := if 8 ∈ fs then m.ids else a.ids
  nodes := if 9 ∈ fs then m.nodes else a.nodes
  data := if 10 ∈ fs then m.data else a.data
theorem mix_nil (a m : Msg) : mix a m [] = a := by cases a; simp [mix]
theorem ite_two {α : Type} {i f : Nat} {fs : List Nat} (x y : α) : (if i ∈ fs then x else if i ∈ [f] then x else y) = if i ∈ f :: fs then x else y := by
  by_cases h : i ∈ fs <;> by_cases h2 : i = f <;> simp [h, h2]
theorem mix_mix (a m : Msg) (f : Nat) (fs : List Nat) : mix (mix a m [f]) m fs = mix a m (f :: fs) := by
  unfold mix
  simp only [ite_two]
/-- A field of a message that may be, read back. -/
theorem rf_put {m a : Msg} {r : List UInt8} {f : Nat} (hf : f < 11) (hm : MayF m) (h8 : f = 8 → a.ids = []) (h9 : f = 9 → a.nodes = []) : rf a (fb m f ++ r) f = some (mix a m [f], r) := by
  have p1 : (256 : Nat) ^ 1 = 256 := by decide
  have p2 : (256 : Nat) ^ 2 = 65536 := by decide
  have p4 : (256 : Nat) ^ 4 = 4294967296 := by decide
  have : f = 0 ∨ f = 1 ∨ f = 2 ∨ f = 3 ∨ f = 4 ∨ f = 5 ∨ f = 6 ∨ f = 7 ∨ f = 8 ∨ f = 9 ∨ f = 10 := by omega
  rcases this with rfl | rfl | rfl | rfl | rfl | rfl | rfl | rfl | rfl | rfl | rfl
  · simp only [rf, fb]; rw [rnum_be (lt8 hm.req.2), Option.map_some, sgn_nat hm.req.1 hm.req.2]; cases a; simp [mix]
  · simp only [rf, fb]; rw [rtxt_txt (by have := hm.key; omega), Option.map_some]; cases a; simp [mix]
  · simp only [rf, fb]; rw [rnum_be (lt8 hm.ver.2), Option.map_some, sgn_nat hm.ver.1 hm.ver.2]; cases a; simp [mix]
  · simp only [rf, fb]; rw [rnum_be (lt8 hm.inc.2), Option.map_some, sgn_nat hm.inc.1 hm.inc.2]; cases a; simp [mix]
  · have h := hm.size
    simp only [rf, fb]; rw [rnum_be (by omega), Option.map_some]; dsimp only; rw [show ((m.size.toNat : Nat) : Int) = m.size by omega]; cases a; simp [mix]
  · have h := hm.code
    simp only [rf, fb]; rw [rnum_be (by omega), Option.map_some]; dsimp only; rw [show ((m.code.toNat : Nat) : Int) = m.code by omega]; cases a; simp [mix]
  · have h := hm.node
    simp only [rf, fb]; rw [rnum_be (by omega), Option.map_some]; dsimp only; rw [show ((m.node.toNat : Nat) : Int) = m.node by omega]; cases a; simp [mix]
  · simp only [rf, fb]
    rw [rnum_be (by cases m.back <;> decide), Option.bind_some]
    cases hb : m.back <;> (cases a; simp [mix, hb])
  · have h := hm.ids
    simp only [rf, fb]
    rw [List.append_assoc, rnum_be (by omega), Option.bind_some]
    dsimp only
    rw [rids_put _ _ hm.id, Option.map_some, h8 rfl]; cases a; simp [mix]
  · have h := hm.nodes
    simp only [rf, fb]
    rw [List.append_assoc, rnum_be (by omega), Option.bind_some]
    dsimp only
    rw [rnodes_put _ _ hm.nd, Option.map_some, h9 rfl]; cases a; simp [mix]
  · have h := hm.data
    simp only [rf, fb]
    rw [List.append_assoc, rnum_be (by omega), Option.bind_some]
    dsimp only
    rw [cut_app rfl, Option.map_some]; cases a; simp [mix]
theorem rfs_put {m : Msg} {r : List UInt8} (hm : MayF m) : ∀ (fs : List Nat) (a : Msg), (∀ f ∈ fs, f < 11) → fs.Nodup → (8 ∈ fs → a.ids = []) → (9 ∈ fs → a.nodes = []) → rfs fs a (fs.flatMap (fb m) ++ r) = some (mix a m fs, r)
  | [], a, _, _, _, _ => by simp [rfs, mix_nil]
  | f :: fs, a, h, hn, h8, h9 => by
    have hn' := List.nodup_cons.1 hn
    simp only [rfs, List.flatMap_cons]
    rw [List.append_assoc, rf_put (h f (by simp)) hm (fun e => h8 (by simp [e])) (fun e => h9 (by simp [e])), Option.bind_some]
    dsimp only
    rw [rfs_put hm fs _ (fun g hg => h g (by simp [hg])) hn'.2, mix_mix]
    · intro h88
      have hne : 8 ≠ f := fun e => hn'.1 (e ▸ h88)
      simp only [mix, List.mem_singleton, hne, if_false]
      exact h8 (by simp [h88])
    · intro h99
      have hne : 9 ≠ f := fun e => hn'.1 (e ▸ h99)
      simp only [mix, List.mem_singleton, hne, if_false]
      exact h9 (by simp [h99])
theorem flds_lt {k : Nat} : ∀ f ∈ flds k, f < 11 := by
  by_cases h : k < 21
  · have : ∀ k < 21, ∀ f ∈ flds k, f < 11 := by decide
    exact this k h
  · rw [flds_over (by simp [isK]; omega)]; intro f hf; cases hf
theorem flds_nd (k : Nat) : (flds k).Nodup := by
  by_cases h : k < 21
  · have : ∀ k < 21, (flds k).Nodup := by decide
    exact this k h
  · rw [flds_over (by simp [isK]; omega)]; exact List.nodup_nil
theorem mix_keep (m : Msg) (fs : List Nat) : mix (msg0 m.kind m.frm m.to_) m fs = keep m fs := rfl
theorem rall_put {m : Msg} {r : List UInt8} (hm : MayF m) : rall (bytes m ++ r) = some (m, r) := by
  have p1 : (256 : Nat) ^ 1 = 256 := by decide
  have p2 : (256 : Nat) ^ 2 = 65536 := by decide
  have hk := hm.kind
  have hf := hm.frm
  have ht := hm.to_
  unfold rall rhead bytes head
  rw [List.append_assoc, List.append_assoc, List.append_assoc, rnum_be (by omega), Option.bind_some]
  dsimp only
  rw [rnum_be (by omega), Option.bind_some]
  dsimp only
  rw [rnum_be (by omega), Option.map_some, Option.bind_some]
  dsimp only
  rw [show ((m.frm.toNat : Nat) : Int) = m.frm by omega, show ((m.to_.toNat : Nat) : Int) = m.to_ by omega]
  show rfs (flds m.kind) (msg0 m.kind m.frm m.to_) _ = _
  rw [rfs_put hm _ _ (fun f hf => flds_lt f hf) (flds_nd _) (fun _ => rfl) (fun _ => rfl), mix_keep, ← hm.bare]
theorem get_put {m : Msg} (h : may m = true) : get (bytes m) = some m := by
  unfold get
  have := rall_put (r := []) ((may_iff m).1 h)
  rw [List.append_nil] at this
  rw [this, Option.bind_some, if_pos ⟨rfl, h⟩]
theorem get_more {m : Msg} (h : may m = true) (c : UInt8) : get (bytes m ++ [c]) = none := by
  unfold get
  rw [rall_put ((may_iff m).1 h), Option.bind_some, if_neg (fun h => by cases h.1)]
theorem bytes_inj {m n : Msg} (hm : may m = true) (hn : may n = true) (h : bytes m = bytes n) : m = n := by
  have h1 := get_put hm
  rw [h, get_put hn] at h1
  injection h1 with h1
  exact h1.symm
/-- More bytes behind leave what was read. -/
theorem cut_more {n : Nat} {l t : List UInt8} {q : List UInt8 × List UInt8} (h : cut n l = some q) : cut n (l ++ t) = some (q.1, q.2 ++ t) := by
  unfold cut at h ⊢
  split at h
  · rename_i hn
    injection h with h; subst h
    rw [if_pos (by simp; omega), List.take_append_of_le_length hn, List.drop_append_of_le_length hn]
  · cases h
theorem rnum_more {n : Nat} {l t : List UInt8} {q : Nat × List UInt8} (h : rnum n l = some q) : rnum n (l ++ t) = some (q.1, q.2 ++ t) := by
  unfold rnum at h ⊢
  rw [Option.map_eq_some_iff] at h
  obtain ⟨x, h1, rfl⟩ := h
  rw [cut_more h1]; rfl
theorem rtxt_more {l t : List UInt8} {q : List UInt8 × List UInt8} (h : rtxt l = some q) : rtxt (l ++ t) = some (q.1, q.2 ++ t) := by
  unfold rtxt at h ⊢
  rw [Option.bind_eq_some_iff] at h
  obtain ⟨x, h1, h2⟩ := h
  rw [rnum_more h1, Option.bind_some]
  exact cut_more h2
theorem rid_more {l t : List UInt8} {q : (List UInt8 × Int) × List UInt8} (h : rid l = some q) : rid (l ++ t) = some (q.1, q.2 ++ t) := by
  unfold rid at h ⊢
  rw [Option.bind_eq_some_iff] at h
  obtain ⟨x, h1, h2⟩ := h
  rw [Option.map_eq_some_iff] at h2
  obtain ⟨y, h3, rfl⟩ := h2
  rw [rtxt_more h1, Option.bind_some]
  dsimp only
  rw [rnum_more h3]; rfl
theorem rids_more : ∀ {n : Nat} {l t : List UInt8} {q : List (List UInt8 × Int) × List UInt8}, rids n l = some q → rids n (l ++ t) = some (q.1, q.2 ++ t)
  | 0, l, t, q, h => by injection h with h; subst h; rfl
  | n + 1, l, t, q, h => by
    simp only [rids, Option.bind_eq_some_iff, Option.map_eq_some_iff] at h
    obtain ⟨x, h1, y, h2, rfl⟩ := h
    simp only [rids]
    rw [rid_more h1, Option.bind_some]
    dsimp only
    rw [rids_more h2]; rfl
theorem rnodes_more : ∀ {n : Nat} {l t : List UInt8} {q : List Int × List UInt8}, rnodes n l = some q → rnodes n (l ++ t) = some (q.1, q.2 ++ t)
  | 0, l, t, q, h => by injection h with h; subst h; rfl
  | n + 1, l, t, q, h => by
    simp only [rnodes, Option.bind_eq_some_iff, Option.map_eq_some_iff] at h
    obtain ⟨x, h1, y, h2, rfl⟩ := h
    simp only [rnodes]
    rw [rnum_more h1, Option.bind_some]
    dsimp only
    rw [rnodes_more h2]; rfl
theorem rf_more {m : Msg} {l t : List UInt8} {f : Nat} {q : Msg × List UInt8} (h : rf m l f = some q) : rf m (l ++ t) f = some (q.1, q.2 ++ t) := by
  by_cases hf : f < 11
  · have : f = 0 ∨ f = 1 ∨ f = 2 ∨ f = 3 ∨ f = 4 ∨ f = 5 ∨ f = 6 ∨ f = 7 ∨ f = 8 ∨ f = 9 ∨ f = 10 := by omega
    rcases this with rfl | rfl | rfl | rfl | rfl | rfl | rfl | rfl | rfl | rfl | rfl
    · simp only [rf, Option.map_eq_some_iff] at h; obtain ⟨a, h1, rfl⟩ := h; simp only [rf]; rw [rnum_more h1]; rfl
    · simp only [rf, Option.map_eq_some_iff] at h; obtain ⟨a, h1, rfl⟩ := h; simp only [rf]; rw [rtxt_more h1]; rfl
    · simp only [rf, Option.map_eq_some_iff] at h; obtain ⟨a, h1, rfl⟩ := h; simp only [rf]; rw [rnum_more h1]; rfl
    · simp only [rf, Option.map_eq_some_iff] at h; obtain ⟨a, h1, rfl⟩ := h; simp only [rf]; rw [rnum_more h1]; rfl
    · simp only [rf, Option.map_eq_some_iff] at h; obtain ⟨a, h1, rfl⟩ := h; simp only [rf]; rw [rnum_more h1]; rfl
    · simp only [rf, Option.map_eq_some_iff] at h; obtain ⟨a, h1, rfl⟩ := h; simp only [rf]; rw [rnum_more h1]; rfl
    · simp only [rf, Option.map_eq_some_iff] at h; obtain ⟨a, h1, rfl⟩ := h; simp only [rf]; rw [rnum_more h1]; rfl
    · simp only [rf, Option.bind_eq_some_iff] at h; obtain ⟨a, h1, h⟩ := h; simp only [rf]; rw [rnum_more h1, Option.bind_some]
      dsimp only
      split at h
      · rename_i hn; injection h with h; subst h; rw [if_pos hn]
      · cases h
    · simp only [rf, Option.bind_eq_some_iff, Option.map_eq_some_iff] at h; obtain ⟨a, h1, b, h3, rfl⟩ := h; simp only [rf]; rw [rnum_more h1, Option.bind_some]; dsimp only; rw [rids_more h3]; rfl
    · simp only [rf, Option.bind_eq_some_iff, Option.map_eq_some_iff] at h; obtain ⟨a, h1, b, h3, rfl⟩ := h; simp only [rf]; rw [rnum_more h1, Option.bind_some]; dsimp only; rw [rnodes_more h3]; rfl
    · simp only [rf, Option.bind_eq_some_iff, Option.map_eq_some_iff] at h; obtain ⟨a, h1, b, h3, rfl⟩ := h; simp only [rf]; rw [rnum_more h1, Option.bind_some]; dsimp only; rw [cut_more h3]; rfl
  · obtain ⟨g, rfl⟩ : ∃ g, f = g + 11 := ⟨f - 11, by omega⟩
    simp only [rf] at h ⊢
    injection h with h; subst h; rfl
theorem rfs_more : ∀ {fs : List Nat} {m : Msg} {l t : List UInt8} {q : Msg × List UInt8}, rfs fs m l = some q → rfs fs m (l ++ t) = some (q.1, q.2 ++ t)
  | [], m, l, t, q, h => by injection h with h; subst h; rfl
  | f :: fs, m, l, t, q, h => by
    simp only [rfs, Option.bind_eq_some_iff] at h
    obtain ⟨x, h1, h2⟩ := h
    simp only [rfs]
    rw [rf_more h1, Option.bind_some]
    exact rfs_more h2
theorem rall_more {l t : List UInt8} {q : Msg × List UInt8} (h : rall l = some q) : rall (l ++ t) = some (q.1, q.2 ++ t) := by
  unfold rall rhead at h ⊢
  simp only [Option.bind_eq_some_iff, Option.map_eq_some_iff] at h
  obtain ⟨x, ⟨a, h1, b, h2, c, h3, rfl⟩, h4⟩ := h
  rw [rnum_more h1, Option.bind_some]
  dsimp only
  rw [rnum_more h2, Option.bind_some]
  dsimp only
  rw [rnum_more h3, Option.map_some, Option.bind_some]
  exact rfs_more h4
theorem get_fewer {m : Msg} (h : may m = true) {x : List UInt8} (hx : x ≠ []) (e : bytes m = x) : get (x.take (x.length - 1)) = none := by
  unfold get
  cases hr : rall (x.take (x.length - 1)) with
  | none => rfl
  | some q =>
    have h1 := rall_more (t := x.drop (x.length - 1)) hr
    have h2 := rall_put (r := []) ((may_iff m).1 h)
    rw [List.take_append_drop, ← e] at h1
    rw [List.append_nil, h1] at h2
    injection h2 with h2
    injection h2 with h3 h4
    have h5 := List.append_eq_nil_iff.1 h4
    have : (x.drop (x.length - 1)).length = 1 := by
      rw [List.length_drop]
      have : 0 < x.length := List.length_pos_iff.2 hx
      omega
    rw [← e] at this
    rw [h5.2] at this
    cases this
/-- What is read is what would be put. -/
theorem cut_is {n : Nat} {l : List UInt8} {q : List UInt8 × List UInt8} (h : cut n l = some q) : l = q.1 ++ q.2 ∧ q.1.length = n := by
  unfold cut at h
  split at h
  · rename_i hn; injection h with h; subst h; exact ⟨(List.take_append_drop _ _).symm, by rw [List.length_take]; omega⟩
  · cases h
theorem rnum_is {n : Nat} {l : List UInt8} {q : Nat × List UInt8} (h : rnum n l = some q) : l = be n q.1 ++ q.2 ∧ q.1 < 256 ^ n := by
  unfold rnum at h
  rw [Option.map_eq_some_iff] at h
  obtain ⟨x, h1, rfl⟩ := h
  have h2 := cut_is h1
  dsimp only
  refine ⟨?_, by rw [← h2.2]; exact num_lt _⟩
  have := be_num x.1
  rw [h2.2] at this
  rw [this]; exact h2.1
theorem rtxt_is {l : List UInt8} {q : List UInt8 × List UInt8} (h : rtxt l = some q) : l = txt q.1 ++ q.2 := by
  unfold rtxt at h
  rw [Option.bind_eq_some_iff] at h
  obtain ⟨x, h1, h2⟩ := h
  have h3 := rnum_is h1
  have h4 := cut_is h2
  unfold txt
  rw [h4.2, List.append_assoc, ← h4.1]; exact h3.1
theorem toNat_sgn {v : Nat} (h0 : 0 ≤ sgn v) (hv : v < 256 ^ 8) : (sgn v).toNat = v := by
  have p8 : (256 : Nat) ^ 8 = 18446744073709551616 := by decide
  unfold sgn at h0 ⊢
  split at h0
  · rename_i h; rw [if_pos h]; omega
  · omega
theorem rid_is {l : List UInt8} {q : (List UInt8 × Int) × List UInt8} (h : rid l = some q) (h0 : 0 ≤ q.1.2) : l = txt q.1.1 ++ be 8 q.1.2.toNat ++ q.2 := by
  unfold rid at h
  rw [Option.bind_eq_some_iff] at h
  obtain ⟨x, h1, h2⟩ := h
  rw [Option.map_eq_some_iff] at h2
  obtain ⟨y, h3, rfl⟩ := h2
  have h4 := rnum_is h3
  dsimp only at h0 ⊢
  rw [toNat_sgn h0 h4.2, List.append_assoc, ← h4.1]
  exact rtxt_is h1
theorem rids_is : ∀ {n : Nat} {l : List UInt8} {q : List (List UInt8 × Int) × List UInt8}, rids n l = some q → (∀ x ∈ q.1, 0 ≤ x.2) → l = (q.1.flatMap fun x => txt x.1 ++ be 8 x.2.toNat) ++ q.2 ∧ q.1.length = n
  | 0, l, q, h, _ => by injection h with h; subst h; exact ⟨rfl, rfl⟩
  | n + 1, l, q, h, h0 => by
    simp only [rids, Option.bind_eq_some_iff, Option.map_eq_some_iff] at h
    obtain ⟨x, h1, y, h2, rfl⟩ := h
    have h3 := rid_is h1 (h0 x.1 (by simp))
    have h4 := rids_is h2 fun z hz => h0 z (by simp [hz])
    refine ⟨?_, by simp [h4.2]⟩
    rw [h3, List.flatMap_cons, List.append_assoc _ _ y.2, ← h4.1]
theorem rnodes_is : ∀ {n : Nat} {l : List UInt8} {q : List Int × List UInt8}, rnodes n l = some q → l = (q.1.flatMap fun n => be 2 n.toNat) ++ q.2 ∧ q.1.length = n
  | 0, l, q, h => by injection h with h; subst h; exact ⟨rfl, rfl⟩
  | n + 1, l, q, h => by
    simp only [rnodes, Option.bind_eq_some_iff, Option.map_eq_some_iff] at h
    obtain ⟨x, h1, y, h2, rfl⟩ := h
    have h3 := rnum_is h1
    have h4 := rnodes_is h2
    refine ⟨?_, by simp [h4.2]⟩
    rw [h3.1, List.flatMap_cons, List.append_assoc _ _ y.2, ← h4.1]
    simp
/-- What a field is worth. -/
def pj (m : Msg) : Nat → Int × List UInt8 × Bool × List (List UInt8 × Int) × List Int
  | 0 => (m.req, [], false, [], [])
  | 1 => (0, m.key, false, [], [])
  | 2 => (m.ver, [], false, [], [])
  | 3 => (m.inc, [], false, [], [])
  | 4 => (m.size, [], false, [], [])
  | 5 => (m.code, [], false, [], [])
  | 6 => (m.node, [], false, [], [])
  | 7 => (0, [], m.back, [], [])
  | 8 => (0, [], false, m.ids, [])
  | 9 => (0, [], false, [], m.nodes)
  | 10 => (0, m.data, false, [], [])
  | _ => (0, [], false, [], [])
/-- What is asked of it. -/
def Okf (m : Msg) : Nat → Prop
  | 0 => 0 ≤ m.req
  | 2 => 0 ≤ m.ver
  | 3 => 0 ≤ m.inc
  | 8 => ∀ x ∈ m.ids, 0 ≤ x.2
  | _ => True
theorem okf_may {m : Msg} (h : MayF m) (f : Nat) : Okf m f := by
  unfold Okf
  split
  · exact h.req.1
  · exact h.ver.1
  · exact h.inc.1
  · exact fun x hx => (h.id x hx).2.1
  · trivial
theorem fb_pj {m m' : Msg} {f : Nat} (hf : f < 11) (h : pj m f = pj m' f) : fb m f = fb m' f ∧ (Okf m f ↔ Okf m' f) := by
  have : f = 0 ∨ f = 1 ∨ f = 2 ∨ f = 3 ∨ f = 4 ∨ f = 5 ∨ f = 6 ∨ f = 7 ∨ f = 8 ∨ f = 9 ∨ f = 10 := by omega
  rcases this with rfl | rfl | rfl | rfl | rfl | rfl | rfl | rfl | rfl | rfl | rfl <;> simp only [pj, Prod.mk.injEq] at h <;> simp only [fb, Okf, h, and_self]
theorem rf_pj {m m1 : Msg} {l l1 : List UInt8} {f g : Nat} (hf : f < 11) (hg : g < 11) (hfg : f ≠ g) (h : rf m l f = some (m1, l1)) : pj m1 g = pj m g := by
  have hgs : g = 0 ∨ g = 1 ∨ g = 2 ∨ g = 3 ∨ g = 4 ∨ g = 5 ∨ g = 6 ∨ g = 7 ∨ g = 8 ∨ g = 9 ∨ g = 10 := by omega
  have : f = 0 ∨ f = 1 ∨ f = 2 ∨ f = 3 ∨ f = 4 ∨ f = 5 ∨ f = 6 ∨ f = 7 ∨ f = 8 ∨ f = 9 ∨ f = 10 := by omega
  rcases this with rfl | rfl | rfl | rfl | rfl | rfl | rfl | rfl | rfl | rfl | rfl
  · simp only [rf, Option.map_eq_some_iff] at h; obtain ⟨a, h1, h⟩ := h; injection h with h _; subst h; rcases hgs with rfl | rfl | rfl | rfl | rfl | rfl | rfl | rfl | rfl | rfl | rfl <;> first | rfl | exact absurd rfl hfg
  · simp only [rf, Option.map_eq_some_iff] at h; obtain ⟨a, h1, h⟩ := h; injection h with h _; subst h; rcases hgs with rfl | rfl | rfl | rfl | rfl | rfl | rfl | rfl | rfl | rfl | rfl <;> first | rfl | exact absurd rfl hfg
  · simp only [rf, Option.map_eq_some_iff] at h; obtain ⟨a, h1, h⟩ := h; injection h with h _; subst h; rcases hgs with rfl | rfl | rfl | rfl | rfl | rfl | rfl | rfl | rfl | rfl | rfl <;> first | rfl | exact absurd rfl hfg
  · simp only [rf, Option.map_eq_some_iff] at h; obtain ⟨a, h1, h⟩ := h; injection h with h _; subst h; rcases hgs with rfl | rfl | rfl | rfl | rfl | rfl | rfl | rfl | rfl | rfl | rfl <;> first | rfl | exact absurd rfl hfg
  · simp only [rf, Option.map_eq_some_iff] at h; obtain ⟨a, h1, h⟩ := h; injection h with h _; subst h; rcases hgs with rfl | rfl | rfl | rfl | rfl | rfl | rfl | rfl | rfl | rfl | rfl <;> first | rfl | exact absurd rfl hfg
  · simp only [rf, Option.map_eq_some_iff] at h; obtain ⟨a, h1, h⟩ := h; injection h with h _; subst h; rcases hgs with rfl | rfl | rfl | rfl | rfl | rfl | rfl | rfl | rfl | rfl | rfl <;> first | rfl | exact absurd rfl hfg
  · simp only [rf, Option.map_eq_some_iff] at h; obtain ⟨a, h1, h⟩ := h; injection h with h _; subst h; rcases hgs with rfl | rfl | rfl | rfl | rfl | rfl | rfl | rfl | rfl | rfl | rfl <;> first | rfl | exact absurd rfl hfg
  · simp only [rf, Option.bind_eq_some_iff] at h; obtain ⟨a, h1, h⟩ := h; split at h
    · injection h with h; injection h with h _; subst h; rcases hgs with rfl | rfl | rfl | rfl | rfl | rfl | rfl | rfl | rfl | rfl | rfl <;> first | rfl | exact absurd rfl hfg
    · cases h
  · simp only [rf, Option.bind_eq_some_iff, Option.map_eq_some_iff] at h; obtain ⟨a, h1, b, h3, h⟩ := h; injection h with h _; subst h; rcases hgs with rfl | rfl | rfl | rfl | rfl | rfl | rfl | rfl | rfl | rfl | rfl <;> first | rfl | exact absurd rfl hfg
  · simp only [rf, Option.bind_eq_some_iff, Option.map_eq_some_iff] at h; obtain ⟨a, h1, b, h3, h⟩ := h; injection h with h _; subst h; rcases hgs with rfl | rfl | rfl | rfl | rfl | rfl | rfl | rfl | rfl | rfl | rfl <;> first | rfl | exact absurd rfl hfg
  · simp only [rf, Option.bind_eq_some_iff, Option.map_eq_some_iff] at h; obtain ⟨a, h1, b, h3, h⟩ := h; injection h with h _; subst h; rcases hgs with rfl | rfl | rfl | rfl | rfl | rfl | rfl | rfl | rfl | rfl | rfl <;> first | rfl | exact absurd rfl hfg
theorem rf_is {m m1 : Msg} {l l1 : List UInt8} {f : Nat} (hf : f < 11) (h : rf m l f = some (m1, l1)) (ho : Okf m1 f) (h8 : f = 8 → m.ids = []) (h9 : f = 9 → m.nodes = []) : l = fb m1 f ++ l1 := by
  have : f = 0 ∨ f = 1 ∨ f = 2 ∨ f = 3 ∨ f = 4 ∨ f = 5 ∨ f = 6 ∨ f = 7 ∨ f = 8 ∨ f = 9 ∨ f = 10 := by omega
  rcases this with rfl | rfl | rfl | rfl | rfl | rfl | rfl | rfl | rfl | rfl | rfl
  · simp only [rf, Option.map_eq_some_iff] at h; obtain ⟨a, h1, h⟩ := h; injection h with h h2; subst h; subst h2; have h3 := rnum_is h1; simp only [fb]; rw [toNat_sgn ho h3.2]; exact h3.1
  · simp only [rf, Option.map_eq_some_iff] at h; obtain ⟨a, h1, h⟩ := h; injection h with h h2; subst h; subst h2; exact rtxt_is h1
  · simp only [rf, Option.map_eq_some_iff] at h; obtain ⟨a, h1, h⟩ := h; injection h with h h2; subst h; subst h2; have h3 := rnum_is h1; simp only [fb]; rw [toNat_sgn ho h3.2]; exact h3.1
  · simp only [rf, Option.map_eq_some_iff] at h; obtain ⟨a, h1, h⟩ := h; injection h with h h2; subst h; subst h2; have h3 := rnum_is h1; simp only [fb]; rw [toNat_sgn ho h3.2]; exact h3.1
  · simp only [rf, Option.map_eq_some_iff] at h; obtain ⟨a, h1, h⟩ := h; injection h with h h2; subst h; subst h2; have h3 := rnum_is h1; simp only [fb]; rw [Int.toNat_natCast]; exact h3.1
  · simp only [rf, Option.map_eq_some_iff] at h; obtain ⟨a, h1, h⟩ := h; injection h with h h2; subst h; subst h2; have h3 := rnum_is h1; simp only [fb]; rw [Int.toNat_natCast]; exact h3.1
  · simp only [rf, Option.map_eq_some_iff] at h; obtain ⟨a, h1, h⟩ := h; injection h with h h2; subst h; subst h2; have h3 := rnum_is h1; simp only [fb]; rw [Int.toNat_natCast]; exact h3.1
  · simp only [rf, Option.bind_eq_some_iff] at h; obtain ⟨a, h1, h⟩ := h; split at h
    · rename_i hn
      injection h with h; injection h with h h2; subst h; subst h2
      have h3 := rnum_is h1
      simp only [fb]
      rw [show (if decide (a.1 = 1) = true then 1 else 0) = a.1 by by_cases e : a.1 = 1 <;> simp [e]; omega]
      exact h3.1
    · cases h
  · simp only [rf, Option.bind_eq_some_iff, Option.map_eq_some_iff] at h; obtain ⟨a, h1, b, h3, h⟩ := h; injection h with h h2; subst h; subst h2
    have h4 := rnum_is h1
    simp only [Okf, h8 rfl, List.nil_append] at ho
    have h5 := rids_is h3 ho
    simp only [fb, h8 rfl, List.nil_append]
    rw [h5.2, List.append_assoc, ← h5.1]; exact h4.1
  · simp only [rf, Option.bind_eq_some_iff, Option.map_eq_some_iff] at h; obtain ⟨a, h1, b, h3, h⟩ := h; injection h with h h2; subst h; subst h2
    have h4 := rnum_is h1
    have h5 := rnodes_is h3
    simp only [fb, h9 rfl, List.nil_append]
    rw [h5.2, List.append_assoc, ← h5.1]; exact h4.1
  · simp only [rf, Option.bind_eq_some_iff, Option.map_eq_some_iff] at h; obtain ⟨a, h1, b, h3, h⟩ := h; injection h with h h2; subst h; subst h2
    have h4 := rnum_is h1
    have h5 := cut_is h3
    simp only [fb]
    rw [h5.2, List.append_assoc, ← h5.1]; exact h4.1
theorem rf_head {m m1 : Msg} {l l1 : List UInt8} {f : Nat} (hf : f < 11) (h : rf m l f = some (m1, l1)) : m1.kind = m.kind ∧ m1.frm = m.frm ∧ m1.to_ = m.to_ := by
  have : f = 0 ∨ f = 1 ∨ f = 2 ∨ f = 3 ∨ f = 4 ∨ f = 5 ∨ f = 6 ∨ f = 7 ∨ f = 8 ∨ f = 9 ∨ f = 10 := by omega
  rcases this with rfl | rfl | rfl | rfl | rfl | rfl | rfl | rfl | rfl | rfl | rfl
  · simp only [rf, Option.map_eq_some_iff] at h; obtain ⟨a, h1, h⟩ := h; injection h with h _; subst h; exact ⟨rfl, rfl, rfl⟩
  · simp only [rf, Option.map_eq_some_iff] at h; obtain ⟨a, h1, h⟩ := h; injection h with h _; subst h; exact ⟨rfl, rfl, rfl⟩
  · simp only [rf, Option.map_eq_some_iff] at h; obtain ⟨a, h1, h⟩ := h; injection h with h _; subst h; exact ⟨rfl, rfl, rfl⟩
  · simp only [rf, Option.map_eq_some_iff] at h; obtain ⟨a, h1, h⟩ := h; injection h with h _; subst h; exact ⟨rfl, rfl, rfl⟩
  · simp only [rf, Option.map_eq_some_iff] at h; obtain ⟨a, h1, h⟩ := h; injection h with h _; subst h; exact ⟨rfl, rfl, rfl⟩
  · simp only [rf, Option.map_eq_some_iff] at h; obtain ⟨a, h1, h⟩ := h; injection h with h _; subst h; exact ⟨rfl, rfl, rfl⟩
  · simp only [rf, Option.map_eq_some_iff] at h; obtain ⟨a, h1, h⟩ := h; injection h with h _; subst h; exact ⟨rfl, rfl, rfl⟩
  · simp only [rf, Option.bind_eq_some_iff] at h; obtain ⟨a, h1, h⟩ := h; split at h
    · injection h with h; injection h with h _; subst h; exact ⟨rfl, rfl, rfl⟩
    · cases h
  · simp only [rf, Option.bind_eq_some_iff, Option.map_eq_some_iff] at h; obtain ⟨a, h1, b, h3, h⟩ := h; injection h with h _; subst h; exact ⟨rfl, rfl, rfl⟩
  · simp only [rf, Option.bind_eq_some_iff, Option.map_eq_some_iff] at h; obtain ⟨a, h1, b, h3, h⟩ := h; injection h with h _; subst h; exact ⟨rfl, rfl, rfl⟩
  · simp only [rf, Option.bind_eq_some_iff, Option.map_eq_some_iff] at h; obtain ⟨a, h1, b, h3, h⟩ := h; injection h with h _; subst h; exact ⟨rfl, rfl, rfl⟩
theorem rfs_pj : ∀ {fs : List Nat} {m m1 : Msg} {l l1 : List UInt8} {g : Nat}, (∀ f ∈ fs, f < 11) → g < 11 → g ∉ fs → rfs fs m l = some (m1, l1) → pj m1 g = pj m g
  | [], m, m1, l, l1, g, _, _, _, h => by injection h with h; injection h with h _; subst h; rfl
  | f :: fs, m, m1, l, l1, g, hf, hg, hn, h => by
    simp only [rfs, Option.bind_eq_some_iff] at h
    obtain ⟨x, h1, h2⟩ := h
    rw [rfs_pj (fun e he => hf e (by simp [he])) hg (fun h => hn (by simp [h])) h2]
    exact rf_pj (m1 := x.1) (l1 := x.2) (hf f (by simp)) hg (fun e => hn (by simp [e])) h1
theorem rfs_is : ∀ {fs : List Nat} {m m1 : Msg} {l l1 : List UInt8}, (∀ f ∈ fs, f < 11) → fs.Nodup → (8 ∈ fs → m.ids = []) → (9 ∈ fs → m.nodes = []) → (∀ f, Okf m1 f) → rfs fs m l = some (m1, l1) →
    l = fs.flatMap (fb m1) ++ l1 ∧ m1.kind = m.kind ∧ m1.frm = m.frm ∧ m1.to_ = m.to_
  | [], m, m1, l, l1, _, _, _, _, _, h => by injection h with h; injection h with h h2; subst h; subst h2; exact ⟨rfl, rfl, rfl, rfl⟩
  | f :: fs, m, m1, l, l1, hf, hn, h8, h9, ho, h => by
    have hn' := List.nodup_cons.1 hn
    have hf1 := hf f (by simp)
    simp only [rfs, Option.bind_eq_some_iff] at h
    obtain ⟨⟨m2, l2⟩, h1, h2⟩ := h
    have hpj := rfs_pj (fun e he => hf e (by simp [he])) hf1 hn'.1 h2
    have hfb := fb_pj hf1 hpj
    have h3 := rf_is hf1 h1 (hfb.2.1 (ho f)) (fun e => h8 (by simp [e])) (fun e => h9 (by simp [e]))
    have h4 := rfs_is (fun e he => hf e (by simp [he])) hn'.2 (fun h => by
      have hne : f ≠ 8 := fun e => hn'.1 (e ▸ h)
      have := rf_pj hf1 (by decide : (8 : Nat) < 11) hne h1
      simp only [pj, Prod.mk.injEq, and_true, true_and] at this
      rw [this]; exact h8 (by simp [h])) (fun h => by
      have hne : f ≠ 9 := fun e => hn'.1 (e ▸ h)
      have := rf_pj hf1 (by decide : (9 : Nat) < 11) hne h1
      simp only [pj, Prod.mk.injEq, and_true, true_and] at this
      rw [this]; exact h9 (by simp [h])) ho h2
    have h5 := rf_head hf1 h1
    refine ⟨?_, h4.2.1.trans h5.1, h4.2.2.1.trans h5.2.1, h4.2.2.2.trans h5.2.2⟩
    rw [List.flatMap_cons, List.append_assoc, ← h4.1, hfb.1]; exact h3
theorem put_get {b : List UInt8} {m : Msg} (h : get b = some m) : may m = true ∧ bytes m = b := by
  unfold get at h
  rw [Option.bind_eq_some_iff] at h
  obtain ⟨⟨m1, r⟩, h1, h2⟩ := h
  dsimp only at h2
  split at h2
  case isFalse => cases h2
  case isTrue hc =>
    injection h2 with h2
    subst h2
    have hr : r = [] := List.eq_nil_of_length_eq_zero hc.1
    subst hr
    refine ⟨hc.2, ?_⟩
    unfold rall rhead at h1
    simp only [Option.bind_eq_some_iff, Option.map_eq_some_iff] at h1
    obtain ⟨x, ⟨a, k1, b2, k2, c, k3, rfl⟩, h4⟩ := h1
    have i1 := rnum_is k1
    have i2 := rnum_is k2
    have i3 := rnum_is k3
    have h5 := rfs_is (fun f hf => flds_lt f hf) (flds_nd _) (fun _ => rfl) (fun _ => rfl) (fun f => okf_may ((may_iff m1).1 hc.2) f) h4
    unfold bytes head
    rw [h5.2.1, h5.2.2.1, h5.2.2.2]
    simp only [msg0, Int.toNat_natCast] at h5 ⊢
    have h6 := h5.1
    rw [List.append_nil] at h6
    rw [List.append_assoc, List.append_assoc, ← h6, ← i3.1, ← i2.1]; exact i1.1.symm
theorem get_may {b : List UInt8} {m : Msg} (h : get b = some m) : may m = true := (put_get h).1
theorem bytes_ne (m : Msg) : bytes m ≠ [] := by
  unfold bytes head
  intro h
  have := congrArg List.length h
  simp only [List.length_append, be_len, List.length_nil] at this
  omega
end Go.Proofs.YtebdmfmadbikaaaDoor.Wi
