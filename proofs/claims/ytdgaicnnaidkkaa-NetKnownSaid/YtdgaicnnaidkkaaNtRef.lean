/- The document's net: New, At, all, Send, Take, Twice, Set. -/
import Derived.Test.YtdgaicnnaidkkaaNtAll
namespace Go.Proofs.Ytdgaicnnaidkkaa.NtW
open Go.RowKit Go.Shelf Mem Rng
set_option linter.unusedVariables false

def sv (l : List UInt8) : Value := .string (str l)
theorem sv_one (L : List (List UInt8)) : ∀ v ∈ L.map sv, v.oneCell' = true := fun v hv => by
  obtain ⟨m, _, rfl⟩ := List.mem_map.1 hv; rfl
def lens (L : List (List UInt8)) : Nat := (L.map List.length).sum
theorem lens_snoc (L : List (List UInt8)) (l : List UInt8) : lens (L ++ [l]) = lens L + l.length := by simp [lens]
/-- The document's net of block q. -/
structure Ref (G : Nat → Prop) (q : Nat) (A : Option Addr) (c most : Nat) (L : List (List UInt8)) (w : World) : Prop where
  blk : Blk w q 57 #[.int .i64 (most : Int), .slice A L.length c]
  own : Mem.Own w 0 9 A c (L.map sv)
  foot : G q ∧ ∀ g, A = some ⟨g, 0, none⟩ → G g ∧ g ≠ q
  lt : ∀ k, G k → k < w.heap.size
  bound : L.length ≤ 100000 ∧ lens L ≤ 134217728 ∧ most ≤ 100000
def RefA (G : Nat → Prop) (q most : Nat) (L : List (List UInt8)) (w : World) : Prop := ∃ A c, Ref G q A c most L w
def RefOk (w : World) (G : Nat → Prop) (q most : Nat) (L : List (List UInt8)) (v : Value) (e : Ending) (w' : World) : Prop := e = .returned v ∧ ∃ G', RefA G' q most L w' ∧ Grow G G' w ∧ Fr G w w'
section
variable {G : Nat → Prop} {q c most : Nat} {A : Option Addr} {L : List (List UInt8)} {w w' w1 w2 : World}
theorem Ref.fr {S : Nat → Prop} (h : Ref G q A c most L w) (hf : Fr S w w') (hS : ∀ k, G k → ¬ S k) : Ref G q A c most L w' :=
  ⟨h.blk.fr hf (hS q h.foot.1), h.own.fr hf (fun g hg => hS g (h.foot.2 g hg).1), h.foot, fun k hk => Nat.lt_of_lt_of_le (h.lt k hk) hf.size, h.bound⟩
theorem Ref.keep (h : Ref G q A c most L w) (hb : Below w.heap.size w w') : Ref G q A c most L w' := h.fr (Fr.quiet (S := fun _ => False) hb) fun _ _ h => h
theorem Ref.cell0 (h : Ref G q A c most L w) : w.cell? ⟨q, 0, none⟩ = some (.int .i64 (most : Int)) := by rw [h.blk.cell]; rfl
theorem Ref.cell1 (h : Ref G q A c most L w) : w.cell? ⟨q, 1, none⟩ = some (.slice A L.length c) := by rw [h.blk.cell]; rfl
theorem Ref.row_at (h : Ref G q A c most L w) {i : Nat} {l : List UInt8} (hl : L[i]? = some l) : ∃ g, A = some ⟨g, 0, none⟩ ∧ w.cell? ⟨g, i, none⟩ = some (sv l) ∧ w.frozen? ⟨g, i, none⟩ = false := by
  have hlt : i < L.length := (List.getElem?_eq_some_iff.1 hl).1
  obtain ⟨g, hA, _, _, hc, hz, _⟩ := h.own.at_ (k := i) (by rw [List.length_map]; exact hlt)
  refine ⟨g, hA, ?_, hz⟩
  rw [hc, List.getElem_map, (List.getElem?_eq_some_iff.1 hl).2]
/-- Another row in the net's field: what an append leaves. -/
theorem Ref.push (h : Ref G q A c most L w) {S : Nat → Prop} (hf : Fr S w w2) (hS : ∀ k, S k → k < w.heap.size → A = some ⟨k, 0, none⟩) {A2 : Option Addr} {c2 : Nat} {L2 : List (List UInt8)} (ho : Mem.Own w2 0 9 A2 c2 (L2.map sv)) (hA2 : A2 = A ∨ ∀ g, A2 = some ⟨g, 0, none⟩ → w.heap.size ≤ g) (hb : L2.length ≤ 100000 ∧ lens L2 ≤ 134217728) :
    ∃ G', Ref G' q A2 c2 most L2 (w2.setCell ⟨q, 1, none⟩ (.slice A2 L2.length c2)) ∧ Grow G G' w ∧ Fr G w (w2.setCell ⟨q, 1, none⟩ (.slice A2 L2.length c2)) := by
  have hq := h.lt q h.foot.1
  have hqA : A ≠ some ⟨q, 0, none⟩ := fun e => (h.foot.2 q e).2 rfl
  have hA2q : ∀ g, A2 = some ⟨g, 0, none⟩ → g ≠ q ∧ (A = some ⟨g, 0, none⟩ ∨ w.heap.size ≤ g) := fun g hg => by
    rcases hA2 with e | e
    · rw [e] at hg; exact ⟨(h.foot.2 g hg).2, .inl hg⟩
    · exact ⟨by have := e g hg; omega, .inr (e g hg)⟩
  have hs : (w2.setCell ⟨q, 1, none⟩ (.slice A2 L2.length c2)).heap.size = w2.heap.size := by simp [World.setCell]
  refine ⟨fun k => G k ∨ A2 = some ⟨k, 0, none⟩, ⟨?_, ?_, ⟨.inl h.foot.1, fun g hg => ⟨.inr hg, (hA2q g hg).1⟩⟩, fun k hk => ?_, hb.1, hb.2, h.bound.2.2⟩, fun k hk => ?_, ?_⟩
  · exact (h.blk.fr hf (fun e => hqA (hS q e hq))).set_ 1 _
  · exact ho.set_far (fun g hg e => (hA2q g hg).1 e.symm)
  · rw [hs]
    rcases hk with hk | hk
    · exact Nat.lt_of_lt_of_le (h.lt k hk) hf.size
    · rcases ho.form with ⟨e, _⟩ | ⟨g, e, _, h2, _⟩
      · rw [hk] at e; cases e
      · rw [hk] at e; injection e with e; injection e with e; omega
  · rcases hk with hk | hk
    · exact .inl hk
    · exact (hA2q k hk).2.imp (fun e => (h.foot.2 k e).1) id
  · exact (hf.mono (S' := G) fun k hk e => (h.foot.2 k (hS k e hk)).1).setCell (p := ⟨q, 1, none⟩) (fun _ => h.foot.1) _
end
theorem RefOk.same {w w' : World} {G : Nat → Prop} {q most : Nat} {L : List (List UInt8)} {v : Value} (h : RefA G q most L w) (hb : Below w.heap.size w w') : RefOk w G q most L v (.returned v) w' := by
  obtain ⟨A, c, hn⟩ := h
  exact ⟨rfl, G, ⟨A, c, hn.keep hb⟩, fun _ h => .inl h, Fr.quiet hb⟩
theorem strinfo : (Try.prog.info? 9).map (fun i => (i.zero, i.size, i.bytes)) = some (some (Value.string ⟨#[]⟩), 1, 16) := by kernel_rfl
set_option maxRecDepth 100000 in
set_option maxHeartbeats 2000000 in
theorem rnew_any (w : World) (most : Int) : Calls Try.prog 13 #[.int .i64 most] w fun e w' => e = .returned (.pointer (some ⟨w.heap.size, 0, none⟩)) ∧ RefA (fun k => k = w.heap.size) w.heap.size (max 0 (min 100000 most)).toNat [] w' ∧ Below w.heap.size w w' ∧ w'.heap.size = w.heap.size + 1 := by
  obtain ⟨m, hm⟩ : ∃ m, max 0 (min (100000 : Int) most) = m := ⟨_, rfl⟩
  have hm0 : 0 ≤ m := by rw [← hm]; exact Int.le_max_left _ _
  have hm1 : m.toNat ≤ 100000 := by rw [← hm]; omega
  have e : ((m.toNat : Nat) : Int) = m := by omega
  have hfin : RefA (fun k => k = w.heap.size) w.heap.size m.toNat [] (w.alloc (.cells #[.int .i64 m, .slice none 0 0] 57)) := by
    refine ⟨none, 0, ?_, Mem.Own.nil, ⟨rfl, (fun g h => by cases h)⟩, (fun k hk => by rw [hk]; simp), by decide, by decide, hm1⟩
    have := Blk.new w 57 #[.int .i64 m, .slice none 0 0]
    rw [e]; exact this
  have HF := Lib.hid hfin
  have HM := Lib.hid hm
  rw [hm]
  clear hfin hm0 hm1 e hm
  go_enter Try.func13, Try.ntmps13
  go_wp2_with fail
  all_goals
    go_ret
    have hmm := HM.out
    refine ⟨rfl, ?_, nextA (Mem.start w) _, by simp⟩
    first
      | (obtain rfl : m = 0 := by omega
         exact HF.out)
      | (obtain rfl : m = 100000 := by omega
         exact HF.out)
      | (obtain rfl : m = most := by omega
         exact HF.out)
set_option maxRecDepth 100000 in
set_option maxHeartbeats 2000000 in
theorem rat_any (G : Nat → Prop) (q most : Nat) (L : List (List UInt8)) (w : World) (h : RefA G q most L w) (i : Int) : Calls Try.prog 27 #[.pointer (some ⟨q, 0, none⟩), .int .i64 i] w fun e w' => e = .returned (.tuple #[.string (str ((atV L i).getD [])), .bool (atV L i).isSome]) ∧ w = w' := by
  obtain ⟨A, c, hn⟩ := h
  have h1 := hn.cell1
  by_cases hi : i < 0
  · have e : atV L i = none := if_pos hi
    rw [e]
    clear hn e
    go_enter Try.func27, Try.ntmps27
    go_wp2_with fail
    go_ret2
    exact ⟨rfl, rfl⟩
  · obtain ⟨k, rfl⟩ : ∃ k : Nat, i = (k : Int) := ⟨i.toNat, by omega⟩
    rw [atV_nat]
    cases hk : L[k]? with
    | none =>
      have hge : (L.length : Int) ≤ (k : Int) := by have := List.getElem?_eq_none_iff.1 hk; omega
      clear hn hk
      go_enter Try.func27, Try.ntmps27
      go_wp2_with fail
      go_ret2
      exact ⟨rfl, rfl⟩
    | some l =>
      obtain ⟨g, rfl, hc, _⟩ := hn.row_at hk
      have hlt : (k : Int) < (L.length : Int) := by have := (List.getElem?_eq_some_iff.1 hk).1; omega
      have hk0 : (0 : Int) ≤ (k : Int) := by omega
      unfold sv at hc
      clear hn hk
      go_enter Try.func27, Try.ntmps27
      go_wp2_with fail
      go_ret2
      exact ⟨rfl, rfl⟩
theorem lens_take_succ (L : List (List UInt8)) (k : Nat) (l : List UInt8) (h : L[k]? = some l) : lens (L.take (k + 1)) = lens (L.take k) + l.length := by
  rw [List.take_succ_eq_append_getElem (List.getElem?_eq_some_iff.1 h).1, (List.getElem?_eq_some_iff.1 h).2, lens_snoc]
theorem lens_take_le (L : List (List UInt8)) (k : Nat) : lens (L.take k) ≤ lens L := by
  have : L = L.take k ++ L.drop k := (List.take_append_drop k L).symm
  have e : lens L = lens (L.take k) + lens (L.drop k) := by unfold lens; rw [← List.sum_append_nat, ← List.map_append, List.take_append_drop]
  omega
set_option maxRecDepth 100000 in
set_option maxHeartbeats 2000000 in
theorem rall_any (G : Nat → Prop) (q most : Nat) (L : List (List UInt8)) (w : World) (h : RefA G q most L w) : Calls Try.prog 30 #[.pointer (some ⟨q, 0, none⟩)] w fun e w' => e = .returned (.int .i64 (lens L : Int)) ∧ w = w' := by
  obtain ⟨A, c, hn⟩ := h
  have h1 := hn.cell1
  have HN := Lib.hid hn
  have HLE := Lib.hid (lens_take_le L)
  obtain ⟨n, hnl⟩ : ∃ n, L.length = n := ⟨_, rfl⟩
  rw [hnl] at h1
  have hnm : (n : Int) ≤ 256 ^ 4 := by have := hn.bound.1; omega
  have HNL := Lib.hid hnl
  clear hn hnl
  go_enter Try.func30, Try.ntmps30
  go_wp2_with fail
  go_loop [3, 4] (fun s i => ∃ k : Nat, i = .int .i64 (k : Int) ∧ k ≤ n ∧ s = .int .i64 (lens (L.take k) : Int)) (fun _ i => n - (intOf i).toNat)
  case atStart => exact ⟨0, rfl, by omega, rfl⟩
  case round =>
    obtain ⟨k, rfl, hk, rfl⟩ := hrel
    by_cases hkn : k < n
    · obtain ⟨l, hl⟩ : ∃ l, L[k]? = some l := ⟨L[k]'(by rw [HNL.out]; exact hkn), List.getElem?_eq_getElem _⟩
      obtain ⟨g, rfl, hc, _⟩ := HN.out.row_at hl
      have hs := lens_take_succ L k l hl
      have hle := HLE.out (k + 1)
      have hb := HN.out.bound.2.1
      have HS := Lib.hid hs
      have hsz : (str l).size = l.length := rfl
      obtain ⟨S, hS⟩ : ∃ S, lens (L.take k) = S := ⟨_, rfl⟩
      obtain ⟨d, hd⟩ : ∃ d, l.length = d := ⟨_, rfl⟩
      rw [hS] at hs HS ⊢
      rw [hd] at hs HS hsz
      have hS1 : (S : Int) ≤ 256 ^ 4 := by omega
      have hS0 : (0 : Int) ≤ (S : Int) := by omega
      have hd1 : (d : Int) ≤ 256 ^ 4 := by omega
      have hd0 : (0 : Int) ≤ (d : Int) := by omega
      have hki : (k : Int) < (n : Int) := by omega
      have hk0 : (0 : Int) ≤ (k : Int) := by omega
      unfold sv at hc
      clear hl hs hle hb hS hd
      go_wp2_with fail
      go_round
      case rel => exact ⟨k + 1, by simp, hkn, by rw [HS.out]; simp⟩
      case measure => simp [intOf]; omega
    · obtain rfl : k = n := by omega
      go_wp2_with fail
      go_ret
      exact ⟨by rw [← HNL.out, List.take_length]; rfl, rfl⟩
end Go.Proofs.Ytdgaicnnaidkkaa.NtW
