/- maps.Clone of a map of blocks; slices.Clone of the late writes. -/
import Derived.Test.YtjpelifafmkdpaaDkOps
import Derived.Ground.SlmcProg
import Derived.Shelf.Lay
import Derived.Shelf.SlMaps.Clone
namespace Go.Proofs
open Go.Shelf
shelf_lay_g SlLaysW.n5 Slmc 5 at Try 31 as Ytjpelifafmkdpaa.cloneLays
end Go.Proofs
namespace Go.Proofs.Ytjpelifafmkdpaa.DkW
open Go.RowKit Go.Shelf Mem Rng
set_option linter.unusedVariables false

theorem mclone_any (w : World) (b n : Nat) (f : Int → List UInt8) (h : MB w b n f) : Calls Try.prog 31 #[.map (some b)] w fun e w' => e = .returned (.map (some w.heap.size)) ∧ MB w' w.heap.size n f ∧ Below w.heap.size w w' ∧ w'.heap.size = w.heap.size + 1 := by
  obtain ⟨D, ⟨es, clock, hb, r⟩, h2⟩ := h
  have hcon := AnyW.maps_Clone Ytjpelifafmkdpaa.cloneLays b es clock w hb
  refine Calls.mono (P := Try.prog) (f := 31) hcon ?_
  rintro e w' ⟨rfl, rfl⟩
  exact ⟨rfl, ⟨D, ⟨es, clock, new_heap w _, r⟩, h2⟩, nextA (Mem.start w) _, World.size_alloc _ _⟩
theorem lateinfo : (Try.prog.info? 65).map (fun i => (i.zero, i.size, i.bytes)) = some (some (.agg (lcells (0, z256)).toArray), 257, 264) := by kernel_rfl
theorem lcells_one (x : Int × List UInt8) : ∀ u ∈ lcells x, u.oneCell' = true := by
  intro u hu
  rcases List.mem_cons.1 hu with rfl | hu
  · rfl
  · exact u8v_one u hu
theorem flat_one (L : List (Int × List UInt8)) : ∀ u ∈ L.flatMap lcells, u.oneCell' = true := by
  intro u hu
  obtain ⟨x, _, hx⟩ := List.mem_flatMap.1 hu
  exact lcells_one x u hx
theorem flat_len : ∀ (L : List (Int × List UInt8)), (∀ x ∈ L, x.2.length = 256) → (L.flatMap lcells).length = L.length * 257
  | [], _ => rfl
  | x :: r, h => by
    rw [List.flatMap_cons, List.length_append, flat_len r (fun y hy => h y (by simp [hy])), lcells_len (h x (by simp)), List.length_cons]
    omega
theorem zlate_size : (Value.agg (lcells (0, z256)).toArray).cells.size = 257 := by kernel_rfl
theorem ownK_empty (w : World) (T : TypeId) : OwnK (w.alloc (.cells #[] T)) w.heap.size T 257 (some ⟨w.heap.size, 0, none⟩) 0 0 [] :=
  ⟨rfl, .inr ⟨w.heap.size, 0, #[], rfl, Nat.le_refl _, new_heap w _, Nat.le_refl _, Nat.zero_le _, rfl, rfl⟩⟩
def CloneOk (w : World) (L : List (Int × List UInt8)) (e : Ending) (w' : World) : Prop := ∃ A c, e = .returned (.slice A L.length c) ∧ OwnK w' w.heap.size 65 257 A L.length c (L.flatMap lcells) ∧ Below w.heap.size w w'
set_option maxHeartbeats 1000000 in
theorem lclone_any (w : World) (A : Option Addr) (c : Nat) (L : List (Int × List UInt8)) (h : OwnK w 0 65 257 A L.length c (L.flatMap lcells)) (hl : ∀ x ∈ L, x.2.length = 256) (hm : L.length ≤ 256 ^ 3 + 1) :
    Calls Try.prog 32 #[.slice A L.length c] w (CloneOk w L) := by
  obtain ⟨i0, hi0, hz0, hz1, hz2⟩ := info_parts lateinfo
  have hnil := Lib.run_eql_slice_nil (P := Try.prog) w 61 65 A L.length c 0 0 Try.underlying61
  have HL := Lib.hid (flat_len L hl)
  have H := Lib.hid h
  obtain ⟨n, hn⟩ : ∃ n, L.length = n := ⟨_, rfl⟩
  have HN := Lib.hid hn
  rw [hn] at hnil hm H HL ⊢
  clear h hl hn
  cases A with
  | none =>
    rcases H.out.form with ⟨_, rfl, rfl, hx⟩ | ⟨g, hg, _⟩
    · have HX := Lib.hid hx
      clear hx
      go_enter Try.func32, Try.ntmps32
      go_wp2_with fail
      go_ret
      exact ⟨none, 0, by rw [HN.out]; rfl, by rw [HN.out, HX.out]; exact OwnK.nil, Below.refl _ _⟩
    · cases hg
  | some a =>
    go_enter Try.func32, Try.ntmps32
    go_wp2_with ((with_reducible show wpList _ _ _ ((⟨some 7, _, _, _, _, _⟩ : Oper) :: _) _ _); refine wpList_appK _ rfl _ _ _ rfl w.heap.size 65 i0 _ 257 264 Try.underlying61 hi0 hz0 hz1 hz2 zlate_size (by decide) _ 0 0 [] rfl (ownK_empty w _) w.heap.size (some a) c n (L.flatMap lcells) rfl (H.out.cells.below (nextA (Mem.start w) _)) HL.out (flat_one L) (by unfold maxLen; omega) (by omega) (by rw [World.size_alloc]; omega) n (by simp) ?_; intro A1 c1 w1 ho1 hb1 _ _; have H1 := Lib.hid (And.intro ho1 hb1); clear ho1 hb1)
    go_ret
    refine ⟨A1, c1, by rw [HN.out]; rfl, by rw [HN.out]; simpa using H1.out.1, (nextA (Mem.start w) _).trans H1.out.2⟩
end Go.Proofs.Ytjpelifafmkdpaa.DkW
