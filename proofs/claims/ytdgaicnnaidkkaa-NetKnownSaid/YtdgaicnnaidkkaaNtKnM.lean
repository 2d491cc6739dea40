/- What the law NetKnown's calls answer: in plain Lean; and the contracts that it asks for besides. -/
import Derived.Test.YtdgaicnnaidkkaaNtNil
import Derived.Test.YtdgaicnnaidkkaaNtPl
namespace Go.Proofs.Ytdgaicnnaidkkaa.NtW
open Go.RowKit Go.Shelf Mem Rng
set_option linter.unusedVariables false

section
variable {most : Nat} {L : List (List UInt8)} {l v o : List UInt8} {i : Int}
theorem send_is_ok (h1 : l.length ≤ 131072) (h2 : L.length < most) (h3 : lens L + l.length ≤ 134217728) : sendE most L l = 0 ∧ sendL most L l = L ++ [l] := by
  have e : sendE most L l = 0 := by
    unfold sendE
    rw [if_neg (by omega), if_neg]
    intro h
    have : lens L = (L.map List.length).sum := rfl
    omega
  exact ⟨e, by unfold sendL; rw [e, if_pos rfl]⟩
theorem send_is_full (h1 : l.length ≤ 131072) (h2 : most ≤ L.length ∨ 134217728 < lens L + l.length) : sendE most L l = 181 ∧ sendL most L l = L := by
  have e : sendE most L l = 181 := by
    unfold sendE
    rw [if_neg (by omega)]
    exact if_pos h2
  exact ⟨e, by unfold sendL; rw [e, if_neg (by decide)]⟩
theorem send_is_long (h1 : 131072 < l.length) : sendE most L l = 3 ∧ sendL most L l = L := by
  have e : sendE most L l = 3 := if_pos h1
  exact ⟨e, by unfold sendL; rw [e, if_neg (by decide)]⟩
theorem twice_is {x : Int} {L' : List (List UInt8)} (hv : atV L i = some v) (h : sendE most L v = x ∧ sendL most L v = L') : twiceE most L i = x ∧ twiceL most L i = L' := by
  unfold twiceE twiceL; rw [hv]; exact h
theorem twice_is_none (hv : atV L i = none) : twiceE most L i = 5 ∧ twiceL most L i = L := by
  unfold twiceE twiceL; rw [hv]; exact ⟨rfl, rfl⟩
theorem set_is_none (hv : atV L i = none) : setE L i l = 5 ∧ setL L i l = L := by
  have e : setE L i l = 5 := by unfold setE; rw [hv]
  exact ⟨e, by unfold setL; rw [e, if_neg (by decide)]⟩
theorem set_is_long (hv : atV L i = some o) (h : 131072 < l.length) : setE L i l = 3 ∧ setL L i l = L := by
  have e : setE L i l = 3 := by unfold setE; rw [hv]; exact if_pos h
  exact ⟨e, by unfold setL; rw [e, if_neg (by decide)]⟩
theorem set_is_full (hv : atV L i = some o) (h : l.length ≤ 131072) (h2 : 134217728 < lens L - o.length + l.length) : setE L i l = 181 ∧ setL L i l = L := by
  have e : setE L i l = 181 := by unfold setE; rw [hv]; dsimp only; rw [if_neg (by omega)]; exact if_pos h2
  exact ⟨e, by unfold setL; rw [e, if_neg (by decide)]⟩
theorem set_is_ok (hv : atV L i = some o) (h : l.length ≤ 131072) (h2 : lens L - o.length + l.length ≤ 134217728) : setE L i l = 0 ∧ setL L i l = L.set i.toNat l := by
  have e : setE L i l = 0 := by
    unfold setE; rw [hv]; dsimp only; rw [if_neg (by omega)]
    refine if_neg fun hh => ?_
    have : lens L = (L.map List.length).sum := rfl
    omega
  exact ⟨e, by unfold setL; rw [e, if_pos rfl]⟩
end
/-- So many noughts. -/
def zs (n : Nat) : List UInt8 := List.replicate n 0
theorem zs_len (n : Nat) : (zs n).length = n := List.length_replicate
theorem zs_drop (n k : Nat) : (zs n).drop k = zs (n - k) := List.drop_replicate
theorem zs_map (n : Nat) : (zs n).map u8v = List.replicate n (.int .u8 0) := by unfold zs; rw [List.map_replicate]; rfl
theorem lens_rep (n : Nat) (v : List UInt8) : lens (List.replicate n v) = n * v.length := by
  unfold lens; rw [List.map_replicate, List.sum_replicate_nat]
/-- long[k:] in a later world. -/
theorem lgk {b w' : World} {g n : Nat} (hb : Below b.heap.size b w') (h : Bytes b b.heap.size (some ⟨g, 0, none⟩) (zs n)) (k m : Nat) (hm : m = n - k) : Bytes w' w'.heap.size (some ⟨g, k, none⟩) (zs m) := by
  have := ((h.below hb).up hb.size).drop k
  rw [Nat.zero_add, zs_drop, ← hm] at this
  exact this
/-- The row of 1024 messages, as it goes on. -/
def g1 : List (List UInt8) := List.replicate 1024 (zs 131072)
def g2 : List (List UInt8) := g1 ++ [[]]
def g3 : List (List UInt8) := g2.set 3 (zs 131071)
def g4 : List (List UInt8) := g3.set 1024 [97]
def g5 : List (List UInt8) := g4.eraseIdx 0
def g6 : List (List UInt8) := g5 ++ [zs 131072]
theorem g1_len : g1.length = 1024 := List.length_replicate
theorem g1_lens : lens g1 = 134217728 := by unfold g1; rw [lens_rep, zs_len]
theorem g1_at (k : Nat) (h : k < 1024) : g1[k]? = some (zs 131072) := by unfold g1; rw [List.getElem?_replicate, if_pos h]
theorem g2_len : g2.length = 1025 := by unfold g2; rw [List.length_append, g1_len]; rfl
theorem g2_lens : lens g2 = 134217728 := by unfold g2; rw [lens_app, g1_lens]; rfl
theorem g2_at (k : Nat) (h : k < 1024) : g2[k]? = some (zs 131072) := by unfold g2; rw [List.getElem?_append_left (by rw [g1_len]; exact h)]; exact g1_at k h
theorem snoc_at {L : List (List UInt8)} {v : List UInt8} {n : Nat} (h : L.length = n) : (L ++ [v])[n]? = some v := by rw [← h]; simp
theorem g2_end : g2[1024]? = some [] := snoc_at g1_len
theorem g3_len : g3.length = 1025 := by unfold g3; rw [List.length_set, g2_len]
theorem g3_lens : lens g3 = 134217727 := by
  have h := lens_set g2 3 _ (zs 131071) (g2_at 3 (by decide))
  rw [g2_lens, zs_len 131072, zs_len 131071] at h
  show lens (g2.set 3 (zs 131071)) = _
  generalize lens (g2.set 3 (zs 131071)) = x at h ⊢
  omega
theorem g3_end : g3[1024]? = some [] := by unfold g3; rw [List.getElem?_set_ne (by decide)]; exact g2_end
theorem g4_len : g4.length = 1025 := by unfold g4; rw [List.length_set, g3_len]
theorem g4_lens : lens g4 = 134217728 := by
  have h := lens_set g3 1024 _ [97] g3_end
  rw [g3_lens, List.length_nil, List.length_singleton] at h
  show lens (g3.set 1024 [97]) = _
  generalize lens (g3.set 1024 [97]) = x at h ⊢
  omega
theorem g4_first : g4[0]? = some (zs 131072) := by unfold g4; rw [List.getElem?_set_ne (by decide)]; unfold g3; rw [List.getElem?_set_ne (by decide)]; exact g2_at 0 (by decide)
theorem g5_len : g5.length = 1024 := by unfold g5; rw [List.length_eraseIdx, g4_len]; rfl
theorem g5_lens : lens g5 = 134086656 := by
  have h0 := g4_first
  have hl := g4_lens
  unfold g5
  cases h : g4 with
  | nil => rw [h] at h0; cases h0
  | cons a r =>
    rw [h] at h0 hl
    injection h0 with h0
    rw [List.eraseIdx_zero, List.tail_cons]
    have e : lens (a :: r) = a.length + lens r := by simp [lens]
    rw [e, h0, zs_len] at hl
    omega
theorem g6_len : g6.length = 1025 := by unfold g6; rw [List.length_append, g5_len]; rfl
section
variable {w0 w w' : World} {p most : Nat} {L : List (List UInt8)} {T : TypeId} {A : Option Addr} {c : Nat} {xs : List Value} (h : KS w0 p most L T A c xs w)
include h
theorem twiceK (i : Int) : Calls Try.prog 18 #[.pointer (some ⟨p, 0, none⟩), .int .i64 i] w fun e w' => e = .returned (.int .i64 (twiceE most L i)) ∧ KS w0 p most (twiceL most L i) T A c xs w' := by
  obtain ⟨F, h1, h2, h3, h4, h5⟩ := h
  exact (twice_any F p most L w h1 i).mono fun e w' ⟨he, F', k1, k2, k3⟩ => ⟨he, KS.turn h2 h3 h4 h5 k1 k2 k3⟩
theorem setK (i : Int) (B : Option Addr) (l : List UInt8) (n cb : Nat) (hn : n = l.length) (hB : Bytes w w.heap.size B l) :
    Calls Try.prog 19 #[.pointer (some ⟨p, 0, none⟩), .int .i64 i, .slice B n cb] w fun e w' => e = .returned (.int .i64 (setE L i l)) ∧ KS w0 p most (setL L i l) T A c xs w' := by
  obtain ⟨F, h1, h2, h3, h4, h5⟩ := h
  exact (set_any F p most L w h1 i B l n cb hn hB).mono fun e w' ⟨he, F', k1, k2, k3⟩ => ⟨he, KS.turn h2 h3 h4 h5 k1 k2 k3⟩
theorem lenK : Calls Try.prog 10 #[.pointer (some ⟨p, 0, none⟩)] w fun e w' => e = .returned (.int .i64 (L.length : Int)) ∧ w = w' := lenS h.ns
end
theorem clearS {w0 w : World} {p most : Nat} {L : List (List UInt8)} (h : NS w0 p most L w) : Calls Try.prog 17 #[.pointer (some ⟨p, 0, none⟩)] w fun e w' => e = .returned (.tuple #[]) ∧ NS w0 p most [] w' := by
  obtain ⟨F, h1, h2, h3⟩ := h
  exact (clear_any F p most L w h1).mono fun e w' ⟨he, k1, k3⟩ => ⟨he, NS.turn h2 h3 k1 (fun _ h => .inl h) k3⟩
end Go.Proofs.Ytdgaicnnaidkkaa.NtW
