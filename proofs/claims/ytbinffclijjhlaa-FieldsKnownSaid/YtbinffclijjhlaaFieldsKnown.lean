/- The law FieldsKnown: its walk. -/
import Derived.Test.YtbinffclijjhlaaFieldsNil
import Derived.Test.YtbinffclijjhlaaFieldsBackLaw
import Derived.Test.YtbinffclijjhlaaFieldsCutLaw
import Derived.Lib.SlBytesConst
namespace Go.Proofs.Ytbinffclijjhlaa.FdW
open Go.RowKit Mem Fds
open Go.Proofs.Ytbinffclijjhlaa.Open (OneF Flds i16v)
set_option linter.unusedVariables false

def numsA : Array Value := #[.int .u64 0, .int .u64 1, .int .u64 127, .int .u64 128, .int .u64 255, .int .u64 256, .int .u64 65535, .int .u64 65536, .int .u64 4294967295, .int .u64 4294967296, .int .u64 9223372036854775807, .int .u64 9223372036854775808, .int .u64 18446744073709551615, .int .u64 81985529216486895]
def numsL : List Nat := [0, 1, 127, 128, 255, 256, 65535, 65536, 4294967295, 4294967296, 9223372036854775807, 9223372036854775808, 18446744073709551615, 81985529216486895]
theorem nums_small : numsL.all (fun n => decide (n < 256 ^ 8)) = true := by decide +kernel
theorem nums_eq : numsA.toList = numsL.map fun (n : Nat) => Value.int .u64 (n : Int) := rfl
def OneNum (w : World) (g j : Nat) : Prop := ∃ n : Nat, w.cell? ⟨g, j, none⟩ = some (.int .u64 (n : Int)) ∧ n < 256 ^ 8
theorem nums_at (w : World) (j : Nat) (hj : j < 14) : OneNum (w.alloc (.cells numsA 30)) w.heap.size j := by
  have hl : numsL.length = 14 := rfl
  refine ⟨numsL[j], ?_, ?_⟩
  · rw [(Blk.new w 30 numsA).cell j, ← Array.getElem?_toList, nums_eq, List.getElem?_map, List.getElem?_eq_getElem (by omega)]; rfl
  · have := List.all_eq_true.1 nums_small numsL[j] (List.getElem_mem _)
    simpa using this
theorem OneNum.below {w w' : World} {g j : Nat} (h : OneNum w g j) (hb : Below w.heap.size w w') : OneNum w' g j := by
  obtain ⟨n, hc, hn⟩ := h
  exact ⟨n, (hb.cell (p := ⟨g, j, none⟩) (World.block_lt_of_cell? _ _ hc)).trans hc, hn⟩
theorem big_u64 {n : Nat} (h : n < 256 ^ 8) : 0 ≤ (n : Int) ∧ (n : Int) ≤ 18446744073709551615 := by
  have : (256 : Nat) ^ 8 = 18446744073709551616 := by decide
  omega
def knownL (n g1 g2 : Nat) : List OneF := [⟨1, n, none, [], 0⟩, ⟨8, n, none, [], 0⟩, ⟨0, 0, some ⟨g1, 0, none⟩, [97, 98], 2⟩, ⟨2, n, none, [], 0⟩, ⟨0, 0, none, [], 0⟩, ⟨4, n, none, [], 0⟩, ⟨3, 0, some ⟨g2, 0, none⟩, [0], 1⟩]
def knownA (n : Nat) (g1 g2 : Nat) : Array Value := #[.int .u8 1, .int .u64 (n : Int), .slice none 0 0, .int .u8 8, .int .u64 (n : Int), .slice none 0 0, .int .u8 0, .int .u64 0, .slice (some ⟨g1, 0, none⟩) 2 2, .int .u8 2, .int .u64 (n : Int), .slice none 0 0, .int .u8 0, .int .u64 0, .slice none 0 0, .int .u8 4, .int .u64 (n : Int), .slice none 0 0, .int .u8 3, .int .u64 0, .slice (some ⟨g2, 0, none⟩) 1 1]
theorem known_cells (n g1 g2 : Nat) : (knownA n g1 g2).toList = (knownL n g1 g2).flatMap OneF.cells := rfl
theorem known_small (n g1 g2 : Nat) : ∀ x ∈ knownL n g1 g2, x.b.length ≤ 140737488355328 := by
  intro x hx
  simp only [knownL, List.mem_cons, List.not_mem_nil, or_false] at hx
  rcases hx with rfl | rfl | rfl | rfl | rfl | rfl | rfl <;> simp
def knownW (wo : World) (n : Nat) : World := ((wo.alloc (.cells #[.int .u8 97, .int .u8 98] 5 (2, 3))).alloc (.cells #[.int .u8 0] 5)).alloc (.cells (knownA n wo.heap.size (wo.heap.size + 1)) 32)
theorem known_flds (wo : World) (n : Nat) (hn : n < 256 ^ 8) : Flds (knownW wo n) (knownW wo n).heap.size (some ⟨wo.heap.size + 1 + 1, 0, none⟩) (knownL n wo.heap.size (wo.heap.size + 1)) := by
  have hs : (knownW wo n).heap.size = wo.heap.size + 1 + 1 + 1 := by simp [knownW]
  have b1 : Bytes (knownW wo n) (knownW wo n).heap.size (some ⟨wo.heap.size, 0, none⟩) [97, 98] :=
    ((Bytes.new wo [97, 98] 5 (2, 3) _ rfl (wo.heap.size + 1) (by omega)).below (((Below.refl (wo.heap.size + 1) _).alloc (by simp) _).alloc (by simp) _)).up (by omega)
  have b2 : Bytes (knownW wo n) (knownW wo n).heap.size (some ⟨wo.heap.size + 1, 0, none⟩) [0] := by
    have h := Bytes.new (wo.alloc (.cells #[.int .u8 97, .int .u8 98] 5 (2, 3))) [0] 5 (0, 0) #[.int .u8 0] rfl (wo.heap.size + 1 + 1) (by simp)
    rw [World.size_alloc] at h
    exact (h.below ((Below.refl (wo.heap.size + 1 + 1) _).alloc (by simp) _)).up (by omega)
  refine ⟨fun _ => ⟨wo.heap.size + 1 + 1, 0, rfl, by omega, fun j v hv => ?_⟩, fun x hx => ?_⟩
  · have hb := Blk.new ((wo.alloc (.cells #[.int .u8 97, .int .u8 98] 5 (2, 3))).alloc (.cells #[.int .u8 0] 5)) 32 (knownA n wo.heap.size (wo.heap.size + 1))
    rw [World.size_alloc, World.size_alloc] at hb
    rw [Nat.zero_add]
    refine (hb.cell j).trans ?_
    rw [← Array.getElem?_toList, known_cells]; exact hv
  · simp only [knownL, List.mem_cons, List.not_mem_nil, or_false] at hx
    rcases hx with rfl | rfl | rfl | rfl | rfl | rfl | rfl
    · exact ⟨hn, Bytes.nil⟩
    · exact ⟨hn, Bytes.nil⟩
    · exact ⟨(by decide : 0 < 256 ^ 8), b1⟩
    · exact ⟨hn, Bytes.nil⟩
    · exact ⟨(by decide : 0 < 256 ^ 8), Bytes.nil⟩
    · exact ⟨hn, Bytes.nil⟩
    · exact ⟨(by decide : 0 < 256 ^ 8), b2⟩
theorem Flds.up' {w : World} {B B' : Nat} {A : Option Addr} {l : List OneF} (h : Flds w B A l) (hB : B ≤ B') : Flds w B' A l := ⟨h.cells.up hB, fun x hx => ⟨(h.each x hx).1, (h.each x hx).2.up hB⟩⟩
theorem known_below (wo : World) (n : Nat) : Below wo.heap.size wo (knownW wo n) := (((Below.refl wo.heap.size wo).alloc (Nat.le_refl _) _).alloc (by simp) _).alloc (by simp; omega) _
/-- The fields lie there still. -/
theorem known_at {wa W : World} {A : Option Addr} {l : List OneF} (h : Flds wa wa.heap.size A l) (hb : Below wa.heap.size wa W) : Flds W W.heap.size A l := Flds.up' (Flds.below h hb) hb.size

theorem cells_new (w : World) (xs : List Value) (T : TypeId) (cs : Array Value) (h : cs.toList = xs) (B : Nat) (hB : w.heap.size < B) : Cells (w.alloc (.cells cs T)) B (some ⟨w.heap.size, 0, none⟩) xs := fun _ =>
  ⟨w.heap.size, 0, rfl, hB, fun j v hv => by rw [new_cell, ← hv, ← h, Nat.zero_add, Array.getElem?_toList]⟩
theorem nextA' {a w : World} (h : Below a.heap.size a w) (o : Obj) : Below a.heap.size a (w.alloc o) := h.alloc h.size o
/-- The law of reading, of two new rows. -/
theorem get_two (w : World) (cs : Array Value) (fz : Nat × Nat) (ds : Array Value) (l : List UInt8) (s : List Int) (c d : Nat) (h1 : cs.toList = l.map u8v) (h2 : ds.toList = s.map i16v) (hl : l.length ≤ c) (hc : c ≤ maxLen) (hl2 : s.length ≤ d) (hd : d ≤ maxLen) (hs : ∀ n ∈ s, -32768 ≤ n ∧ n ≤ 32767) :
    Calls Try.prog 4 #[.slice (some ⟨w.heap.size, 0, none⟩) l.length c, .slice (some ⟨w.heap.size + 1, 0, none⟩) s.length d] ((w.alloc (.cells cs 5 fz)).alloc (.cells ds 41))
      fun e w' => e = .returned (.bool true) ∧ Below ((w.alloc (.cells cs 5 fz)).alloc (.cells ds 41)).heap.size ((w.alloc (.cells cs 5 fz)).alloc (.cells ds 41)) w' := by
  have b1 := ((Bytes.new w l 5 fz cs h1 (w.heap.size + 1) (by omega)).below ((Below.refl (w.heap.size + 1) _).alloc (by simp) (.cells ds 41))).up (B' := ((w.alloc (.cells cs 5 fz)).alloc (.cells ds 41)).heap.size) (by simp)
  have b2 := cells_new (w.alloc (.cells cs 5 fz)) (s.map i16v) 41 ds h2 (((w.alloc (.cells cs 5 fz)).alloc (.cells ds 41)).heap.size) (by simp)
  rw [World.size_alloc w] at b2
  exact getLaw_any _ _ l c hl hc b1 _ s d hl2 hd b2 hs
set_option maxRecDepth 100000 in
set_option maxHeartbeats 3200000 in
theorem known_any (w : World) : Calls Try.prog 8 #[] w fun e w' => e = .returned (.bool true) ∧ Below w.heap.size w w' := by
  have kc := fun (w : World) (C : Array Value) (n c : Nat) => Lib.run_convert_bytes_const (P := Try.prog) w 25 5 C n c Try.underlying25 Try.underlying5
  have HS := Lib.hid (And.intro (nextA (Mem.start w) (.cells numsA 30)) (fun j hj => nums_at w j hj))
  go_enter Try.func8, Try.ntmps8
  go_wp2_with fail
  go_loopw [9] (fun i wr => ∃ j : Nat, i = .int .i64 (j : Int) ∧ j ≤ 14 ∧ Below w.heap.size w wr ∧ ∀ j, j < 14 → OneNum wr w.heap.size j) (fun i _ => 14 - (intOf i).toNat)
  case atStart => exact ⟨0, rfl, by omega, HS.out.1, HS.out.2⟩
  case round =>
    clear HS
    obtain ⟨j, rfl, hj, hb, hcs⟩ := hrel
    have HB := Lib.hid (And.intro hb hcs)
    clear hb hcs
    obtain ⟨wo, rfl⟩ : ∃ wo : World, wo = wr := ⟨_, rfl⟩
    by_cases hj4 : j < 14
    · obtain ⟨n, hcell, hn⟩ := HB.out.2 j hj4
      have HN := Lib.hid hn
      have HF := Lib.hid (known_flds wo n hn)
      have HW := Lib.hid (known_below wo n)
      clear hn
      have h1 : (j : Int) < 14 := by omega
      have h0 : (0 : Int) ≤ (j : Int) := by omega
      go_wp2_with fail
      change Calls _ _ _ (knownW wo n) _
      generalize hwa : knownW wo n = wa at *
      have HWA := Lib.hid (And.intro (next HB.out.1 HW.out) (fun j hj => (HB.out.2 j hj).below HW.out))
      clear hwa hcell
      generalize wo.heap.size = g at *
      refine (halves_any wa n (big_u64 HN.out)).mono ?_
      rintro e w1 ⟨rfl, hb⟩
      have B1 := Lib.hid hb
      clear hb
      go_wp2_with fail
      refine (putLaw_any w1 _ (knownL n g (g + 1)) 7 (Nat.le_of_eq rfl) (by decide) (known_at HF.out B1.out) (known_small _ _ _)).mono ?_
      rintro e w2 ⟨rfl, hb⟩
      have B2 := Lib.hid (next B1.out hb)
      clear hb
      go_wp2_with fail
      refine (backLaw_any _ _ (knownL n g (g + 1)) 7 (Nat.le_of_eq rfl) (by decide) (known_at HF.out (nextA B2.out _)) (known_small _ _ _) _ [9] 1 (by decide) (by decide) (Bytes.new w2 [9] _ _ _ (by rfl) _ (by simp))).mono ?_
      rintro e w3 ⟨rfl, hb⟩
      have B3 := Lib.hid (next (nextA B2.out _) hb)
      clear hb
      go_wp2_with fail
      refine (get_two w3 _ _ _ [48, 49, 50, 51, 52, 53, 54, 55, 56, 57, 97, 98, 99, 100, 101, 102] [8, 0, 4, 3, 1, 1, 0, -1, 2] 16 9 (by rfl) (by rfl) (by decide) (by decide) (by decide) (by decide) (by decide)).mono ?_
      rintro e w4 ⟨rfl, hb⟩
      have B4 := Lib.hid (next (nextA (nextA' B3.out _) _) hb)
      clear hb
      go_wp2_with fail
      refine (get_two w4 _ _ _ [1] [1, 0, 2, 0, 1] 1 5 (by rfl) (by rfl) (by decide) (by decide) (by decide) (by decide) (by decide)).mono ?_
      rintro e w5 ⟨rfl, hb⟩
      have B5 := Lib.hid (next (nextA (nextA B4.out _) _) hb)
      clear hb
      go_wp2_with fail
      go_loopw [4] (fun i wq => ∃ k : Nat, i = .int .u16 (k : Int) ∧ k ≤ 20 ∧ Below wa.heap.size wa wq) (fun i _ => 20 - (intOf i).toNat)
      case atStart => exact ⟨0, rfl, by omega, B5.out⟩
      case round =>
        clear B5
        obtain ⟨k, rfl, hk, hb⟩ := hrel
        have BK := Lib.hid hb
        clear hb
        by_cases hk2 : k < 20
        · have hk3 : (k : Int) < 20 := by omega
          have hk0 : (0 : Int) ≤ (k : Int) := by omega
          go_wp2_with fail
          refine (cutLaw_any _ _ (knownL n g (g + 1)) 7 (Nat.le_of_eq rfl) (by decide) (known_at HF.out BK.out) (known_small _ _ _) (k : Int) ⟨by omega, by omega⟩).mono ?_
          rintro e w6 ⟨rfl, hb⟩
          have B6 := Lib.hid (next BK.out hb)
          clear hb
          go_wp2_with fail
          go_roundw
          case rel => exact ⟨k + 1, by go_num, by omega, B6.out⟩
          case measure => simp [intOf]; omega
        · obtain rfl : k = 20 := by omega
          go_wp2_with fail
          go_roundw
          case rel => exact ⟨j + 1, by go_num, by omega, next HWA.out.1 BK.out, fun i hi => (HWA.out.2 i hi).below BK.out⟩
          case measure => simp [intOf]; omega
    · obtain rfl : j = 14 := by omega
      go_wp2_with fail
      refine (long_nil _ _).mono ?_
      rintro e w1 ⟨rfl, hb⟩
      have B1 := Lib.hid (next HB.out.1 hb)
      clear hb
      go_wp2_with fail
      refine (wraw_nil _ _).mono ?_
      rintro e w2 ⟨rfl, hb⟩
      have B2 := Lib.hid (next (nextA B1.out _) hb)
      clear hb
      go_wp2_with fail
      refine (out_nil _).mono ?_
      rintro e w3 ⟨rfl, hb⟩
      have B3 := Lib.hid (next B2.out hb)
      clear hb
      go_wp2_with fail
      refine (bad_nil _).mono ?_
      rintro e w' ⟨rfl, rfl⟩
      go_wp2_with fail
      refine (left_nil _).mono ?_
      rintro e w' ⟨rfl, rfl⟩
      go_wp2_with fail
      refine (word_nil _).mono ?_
      rintro e w4 ⟨rfl, hb⟩
      have B4 := Lib.hid (next B3.out hb)
      clear hb
      go_wp2_with fail
      refine (rraw_nil _ 1 (by decide)).mono ?_
      rintro e w5 ⟨A5, c5, rfl, hb⟩
      have B5 := Lib.hid (next B4.out hb)
      clear hb
      go_wp2_with fail
      refine (works_any _).mono ?_
      rintro e w6 ⟨rfl, hb⟩
      have B6 := Lib.hid (next B5.out hb)
      clear hb
      go_wp2_with fail
      go_ret
      exact ⟨rfl, B6.out⟩
end Go.Proofs.Ytbinffclijjhlaa.FdW
