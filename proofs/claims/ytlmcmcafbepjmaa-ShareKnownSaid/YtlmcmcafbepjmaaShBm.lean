/- For ShareBack: what is no share; Pick. -/
import Derived.Test.YtlmcmcafbepjmaaShLg
namespace Go.Proofs.Ytlmcmcafbepjmaa.ShW
open Go.RowKit Go.Shelf Mem Fds Bv Rng
set_option linter.unusedVariables false

theorem share_put {s : Sh} (h : s.may = true) (hb : s.ver ≤ 9223372036854775807) : isShare s.put s := ⟨h, rfl, hb⟩
/-- The row's length stands behind key, version, node. -/
theorem share_len4 {b : List UInt8} {s : Sh} (h : isShare b s) : pk b = s.key.length ∧ (b.drop (10 + pk b)).take 4 = be 4 s.row.length ∧ b.length = 18 + s.key.length + s.row.length ∧ s.row.length ≤ 65536 := by
  have h0 := parse_share h
  have h1 := put_len s
  obtain ⟨hm, hp, hb⟩ := h
  obtain ⟨m1, m2, m3, m4, m5, m6⟩ := may_parts hm
  rw [hp] at h1
  have hk : pk b = s.key.length := by
    have e := congrArg (fun t => t.key.length) h0.2
    have e2 : ((b.drop 1).take (pk b)).length = s.key.length := e
    rw [List.length_take, List.length_drop] at e2
    omega
  refine ⟨hk, ?_, h1, m6⟩
  rw [hk]
  refine mid_of (a := be 1 s.key.length ++ s.key ++ be 8 s.ver.toNat ++ be 1 s.node.toNat) (r := s.row ++ be 4 (Crc.sum s.body).toNat) ?_ (by simp [be_len]; omega) (be_len _ _)
  rw [← hp]; unfold Sh.put Sh.body; simp
theorem pk_app {a r : List UInt8} (h : 0 < a.length) : pk (a ++ r) = pk a := by
  unfold pk
  rw [List.getD_eq_getElem?_getD, List.getD_eq_getElem?_getD, List.getElem?_append_left h]
/-- No share begins another one. -/
theorem share_ahead {a r : List UInt8} {s t : Sh} (h : isShare a s) (h' : isShare (a ++ r) t) : r = [] := by
  obtain ⟨k1, l1, n1, b1⟩ := share_len4 h
  obtain ⟨k2, l2, n2, b2⟩ := share_len4 h'
  have hp : pk (a ++ r) = pk a := pk_app (by omega)
  have hl : ((a ++ r).drop (10 + pk (a ++ r))).take 4 = (a.drop (10 + pk a)).take 4 := by
    rw [hp, List.drop_append_of_le_length (by omega), List.take_append_of_le_length (by rw [List.length_drop]; omega)]
  rw [l1, l2] at hl
  have := congrArg num hl
  rw [num_be, num_be, Nat.mod_eq_of_lt (show t.row.length < 4294967296 by omega), Nat.mod_eq_of_lt (show s.row.length < 4294967296 by omega)] at this
  rw [List.length_append] at n2
  exact List.eq_nil_of_length_eq_zero (by omega)
theorem cut_none {b : List UInt8} {s : Sh} (h : isShare b s) {m : Nat} (hm : m < b.length) (t : Sh) : ¬ isShare (b.take m) t := fun ht => by
  have := share_ahead ht (r := b.drop m) (by rw [List.take_append_drop]; exact h)
  have := congrArg List.length this
  rw [List.length_drop] at this
  simp at this; omega
theorem more_none {b : List UInt8} {s : Sh} (h : isShare b s) (x : UInt8) (t : Sh) : ¬ isShare (b ++ [x]) t := fun ht => by
  have := share_ahead h ht
  simp at this
theorem share_sum {l t : List UInt8} {s : Sh} (ht : t.length = 4) (h : isShare (l ++ t) s) : t = be 4 (Crc.sum l).toNat := by
  obtain ⟨hm, hp, hb⟩ := h
  unfold Sh.put at hp
  obtain ⟨e1, e2⟩ := List.append_inj' hp (by rw [be_len, ht])
  rw [← e2, e1]
theorem xor_self_zero {x d : UInt8} (h : x ^^^ d = x) : d = 0 := by
  have := congrArg (x ^^^ ·) h
  simp only [← UInt8.xor_assoc, UInt8.xor_self, UInt8.zero_xor] at this
  exact this
/-- With one byte another one it is none. -/
theorem other_none {b : List UInt8} {s : Sh} (h : isShare b s) {a : Nat} (ha : a < b.length) {d : UInt8} (hd : d ≠ 0) (t : Sh) : ¬ isShare (b.set a (b[a] ^^^ d)) t := fun ht => by
  have hlen := share_len h
  obtain ⟨l, r, rfl, hr⟩ : ∃ l r, b = l ++ r ∧ r.length = 4 := ⟨b.take (b.length - 4), b.drop (b.length - 4), (List.take_append_drop _ _).symm, by rw [List.length_drop]; omega⟩
  have hs := share_sum hr h
  by_cases hal : a < l.length
  · rw [List.set_append_left _ _ hal] at ht
    have hs2 := share_sum hr ht
    rw [List.getElem_append_left hal] at hs2
    have := congrArg num (hs.symm.trans hs2)
    rw [num_be, num_be, Nat.mod_eq_of_lt (sum_lt _), Nat.mod_eq_of_lt (sum_lt _)] at this
    have e := BitVec.toNat_inj.1 this
    have h1 := Crc.turned_set l a d hal
    rw [← e] at h1
    rw [BitVec.xor_self] at h1
    exact Crc.sum_turned_ne _ hd h1.symm
  · rw [List.set_append_right _ _ (by omega)] at ht
    have hs2 := share_sum (by rw [List.length_set]; exact hr) ht
    have e := hs2.trans hs.symm
    rw [List.getElem_append_right (by omega)] at e
    have h1 : a - l.length < r.length := by rw [List.length_append] at ha; omega
    have h2 := congrArg (fun z : List UInt8 => z[a - l.length]?) e
    simp only [List.getElem?_set_self h1, List.getElem?_eq_getElem h1] at h2
    exact hd (xor_self_zero (Option.some.inj h2))
theorem set_zero {b : List UInt8} {a : Nat} (ha : a < b.length) : b.set a (b[a] ^^^ 0) = b := by
  rw [UInt8.xor_zero]; exact List.set_getElem_self ha
theorem pick_any (w : World) (i : Int) (n : Nat) (hn : 0 < n) (hb : n ≤ 256 ^ 3) : ∃ k : Nat, k < n ∧ Calls Try.prog 22 #[.int .i64 i, .int .i64 (n : Int)] w fun e w' => e = .returned (.int .i64 (k : Int)) ∧ w = w' := by
  have h1 : i.tmod n < n := Int.tmod_lt_of_pos _ (by omega)
  have h2 : -(n : Int) < i.tmod n := by
    have := Int.lt_tmod_of_pos i (show (0 : Int) < n by omega)
    exact this
  obtain ⟨m, hm⟩ : ∃ m, i.tmod n = m := ⟨_, rfl⟩
  rw [hm] at h1 h2
  have h3 : (m + n).tmod n = (m + n) % n := Int.tmod_eq_emod_of_nonneg (by omega)
  have h4 : 0 ≤ (m + n) % n := Int.emod_nonneg _ (by omega)
  have h5 : (m + n) % n < n := Int.emod_lt_of_pos _ (by omega)
  obtain ⟨k, hk⟩ : ∃ k : Nat, (m + n) % n = (k : Int) := ⟨((m + n) % n).toNat, by omega⟩
  refine ⟨k, by omega, ?_⟩
  rw [hk] at h3
  have hn0 : (0 : Int) < (n : Int) := by omega
  have hn1 : ¬ ((n : Int) = 0) := by omega
  have hn2 : ¬ (n = 0) := by omega
  have hw1 : IntKind.i64.wrap m = m := IntWalk.i64_in _ (by omega)
  have hw2 : IntKind.i64.wrap (m + (n : Int)) = m + (n : Int) := IntWalk.i64_in _ (by omega)
  have hw3 : IntKind.i64.wrap (k : Int) = (k : Int) := IntWalk.i64_in _ (by omega)
  have hq1 : wrap64 m = m := by unfold wrap64; omega
  have hq2 : wrap64 (m + (n : Int)) = m + (n : Int) := by unfold wrap64; omega
  have hq3 : wrap64 (k : Int) = (k : Int) := by unfold wrap64; omega
  clear h1 h2 h4 h5 hk hb hn
  go_enter Try.func22, Try.ntmps22
  go_wp2_with fail
  go_ret
  exact ⟨rfl, rfl⟩
end Go.Proofs.Ytlmcmcafbepjmaa.ShW
