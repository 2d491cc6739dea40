/- A disk in memory: its block, its two maps, its row of late writes; what it is, as a plain value, and what the calls make of it. -/
import Derived.Test.YtjpelifafmkdpaaRows
import Derived.Test.YtjpelifafmkdpaaMp
import Derived.Test.YtjpelifafmkdpaaAppK
namespace Go.Proofs.Ytjpelifafmkdpaa.DkW
open Go.RowKit Mem
set_option linter.unusedVariables false

/-- 256 noughts. -/
def z256 : List UInt8 := List.replicate 256 0
theorem z256_len : z256.length = 256 := List.length_replicate
/-- A write's bytes as a block. -/
def pad (l : List UInt8) : List UInt8 := l ++ List.replicate (256 - l.length) 0
theorem pad_len {l : List UInt8} (h : l.length ≤ 256) : (pad l).length = 256 := by unfold pad; rw [List.length_append, List.length_replicate]; omega
/-- A disk, plain: how many blocks, what is settled, what is now, the late writes, the steps, how many go well, is it off. -/
structure DS where
  n : Nat
  S : Int → List UInt8
  N : Int → List UInt8
  L : List (Int × List UInt8)
  steps : Nat
  well : Int
  off : Bool
def DS.may (s : DS) (i : Int) (len : Nat) : Int := if s.off = true then 180 else if i < 0 ∨ (s.n : Int) ≤ i then 2 else if 256 < len then 3 else 0
def DS.crash (s : DS) : DS := { s with off := true, well := -1 }
def DS.step (s : DS) (f : DS → DS) : DS × Int := if s.well = 0 then ({ s with steps := s.steps + 1 }.crash, 180) else (f { s with steps := s.steps + 1, well := max (-1) (s.well - 1) }, 0)
def DS.write (s : DS) (i : Int) (l : List UInt8) : DS × Int := if s.may i l.length ≠ 0 then (s, s.may i l.length) else DS.step { s with L := s.L ++ [(i, pad l)], N := upd s.N i (pad l) } id
def DS.settle (s : DS) : DS := { s with S := s.N, L := [] }
def DS.sync (s : DS) : DS × Int := if s.off = true then (s, 180) else s.step DS.settle
def DS.fail (s : DS) (n : Int) : DS := { s with well := max (-1) n }
/-- How many bytes of the late write k its fate reaches. -/
def reach (fates : List UInt8) (k : Nat) : Nat := match fates[k]? with
  | none => 0
  | some x => if x.toNat = 255 then 256 else x.toNat
/-- Late writes settled by their fates, from number k on. -/
def fated (fates : List UInt8) : Nat → List (Int × List UInt8) → (Int → List UInt8) → Int → List UInt8
  | _, [], S => S
  | k, (i, b) :: r, S => fated fates (k + 1) r (upd S i (b.take (reach fates k) ++ (S i).drop (reach fates k)))
def DS.on (s : DS) (fates : List UInt8) : DS := if s.off = true then { s with off := false, well := -1, L := [], S := fated fates 0 s.L s.S, N := fated fates 0 s.L s.S } else { s with well := -1 }
/-- A late write's cells. -/
def lcells (x : Int × List UInt8) : List Value := .int .i64 x.1 :: x.2.map u8v
theorem lcells_len {x : Int × List UInt8} (h : x.2.length = 256) : (lcells x).length = 257 := by simp [lcells, h]
def MB (w : World) (b n : Nat) (f : Int → List UInt8) : Prop := MapB Try.prog 3 w b n z256 f
/-- The disk of block p: ms, mn its maps' blocks; its row begins at A; the blocks of F are its own. -/
structure Dk (F : Nat → Prop) (p ms mn : Nat) (A : Option Addr) (c m : Nat) (s : DS) (w : World) : Prop where
  blk : Blk w p 63 #[.int .i64 (s.n : Int), .map (some ms), .map (some mn), .slice A s.L.length c, .int .i64 (s.steps : Int), .int .i64 s.well, .bool s.off]
  mS : ∃ k, MB w ms k s.S ∧ k + s.L.length ≤ m
  mN : MB w mn m s.N
  row : OwnK w 0 65 257 A s.L.length c (s.L.flatMap lcells)
  lens : (∀ x ∈ s.L, x.2.length = 256 ∧ I64 x.1) ∧ (∀ i, (s.S i).length = 256) ∧ ∀ i, (s.N i).length = 256
  foot : F p ∧ F ms ∧ F mn ∧ ms ≠ mn ∧ ms ≠ p ∧ mn ≠ p ∧ ∀ g, A = some ⟨g, 0, none⟩ → F g ∧ g ≠ p ∧ g ≠ ms ∧ g ≠ mn
  lt : ∀ k, F k → k < w.heap.size
  bound : s.n ≤ 4096 ∧ s.steps ≤ 256 ^ 3 ∧ m ≤ s.steps + 1 ∧ -1 ≤ s.well ∧ s.well ≤ 9223372036854775807
/-- The disk, by what it is; m: so many entries its maps may have. -/
def DkM (F : Nat → Prop) (p m : Nat) (s : DS) (w : World) : Prop := ∃ ms mn A c, Dk F p ms mn A c m s w
def DkA (F : Nat → Prop) (p : Nat) (s : DS) (w : World) : Prop := DkM F p s.steps s w
def Grow (F F' : Nat → Prop) (w : World) : Prop := ∀ k, F' k → F k ∨ w.heap.size ≤ k
section
variable {F : Nat → Prop} {p ms mn c m : Nat} {A : Option Addr} {s : DS} {w w' : World}
theorem Dk.fr {S : Nat → Prop} (h : Dk F p ms mn A c m s w) (hf : Fr S w w') (hS : ∀ k, F k → ¬ S k) : Dk F p ms mn A c m s w' := by
  obtain ⟨k, h1, h2⟩ := h.mS
  exact ⟨h.blk.fr hf (hS p h.foot.1), ⟨k, h1.fr hf (hS ms h.foot.2.1), h2⟩, h.mN.fr hf (hS mn h.foot.2.2.1), h.row.fr hf (fun g hg => hS g (h.foot.2.2.2.2.2.2 g hg).1), h.lens, h.foot, fun k hk => Nat.lt_of_lt_of_le (h.lt k hk) hf.size, h.bound⟩
theorem Dk.keep (h : Dk F p ms mn A c m s w) (hb : Below w.heap.size w w') : Dk F p ms mn A c m s w' := h.fr (Fr.quiet (S := fun _ => False) hb) fun _ _ h => h
theorem Dk.cells (h : Dk F p ms mn A c m s w) : w.cell? ⟨p, 0, none⟩ = some (.int .i64 (s.n : Int)) ∧ w.cell? ⟨p, 1, none⟩ = some (.map (some ms)) ∧ w.cell? ⟨p, 2, none⟩ = some (.map (some mn)) ∧ w.cell? ⟨p, 3, none⟩ = some (.slice A s.L.length c) ∧ w.cell? ⟨p, 4, none⟩ = some (.int .i64 (s.steps : Int)) ∧ w.cell? ⟨p, 5, none⟩ = some (.int .i64 s.well) ∧ w.cell? ⟨p, 6, none⟩ = some (.bool s.off) :=
  ⟨h.blk.cell 0, h.blk.cell 1, h.blk.cell 2, h.blk.cell 3, h.blk.cell 4, h.blk.cell 5, h.blk.cell 6⟩
end
theorem DkM.keep {F : Nat → Prop} {p m : Nat} {s : DS} {w w' : World} (h : DkM F p m s w) (hb : Below w.heap.size w w') : DkM F p m s w' := by
  obtain ⟨ms, mn, A, c, h⟩ := h; exact ⟨ms, mn, A, c, h.keep hb⟩
theorem DkA.keep {F : Nat → Prop} {p : Nat} {s : DS} {w w' : World} (h : DkA F p s w) (hb : Below w.heap.size w w') : DkA F p s w' := DkM.keep h hb
theorem DkM.lt {F : Nat → Prop} {p m : Nat} {s : DS} {w : World} (h : DkM F p m s w) : ∀ k, F k → k < w.heap.size := by
  obtain ⟨ms, mn, A, c, h⟩ := h; exact h.lt
theorem DkM.fr {S F : Nat → Prop} {p m : Nat} {s : DS} {w w' : World} (h : DkM F p m s w) (hf : Fr S w w') (hS : ∀ k, F k → ¬ S k) : DkM F p m s w' := by
  obtain ⟨ms, mn, A, c, h⟩ := h; exact ⟨ms, mn, A, c, h.fr hf hS⟩
end Go.Proofs.Ytjpelifafmkdpaa.DkW
