/- The law's helpers: size, put, plain; the document's bytes of a number. -/
import Derived.Test.YtbinffclijjhlaaFieldsRef
import Derived.Test.YtbinffclijjhlaaFieldsHalves
import Derived.Test.YtbinffclijjhlaaOpenF
namespace Go.Proofs.Ytbinffclijjhlaa.FdW
open Go.RowKit Mem Fds
open Go.Proofs.Ytbinffclijjhlaa.Open (OneF Flds)
set_option linter.unusedVariables false

/-- 1, 2, 4 or 8; 0: bytes. -/
def sizeI (z : Int) : Int := if z = 1 ∨ z = 2 ∨ z = 4 ∨ z = 8 then z else 0
/-- A field, by value. -/
def fval (z n : Int) (A : Option Addr) (len c : Nat) : Value := .agg #[.int .u8 z, .int .u64 n, .slice A len c]
set_option maxHeartbeats 400000 in
theorem size_any (w : World) (z n : Int) (A : Option Addr) (len c : Nat) :
    Calls Try.prog 30 #[.agg #[.int .u8 z, .int .u64 n, .slice A len c]] w fun e w' => e = .returned (.int .i64 (sizeI z)) ∧ Below w.heap.size w w' := by
  have hb : Below w.heap.size w (w.alloc (.cells #[.int .u8 z, .int .u64 n, .slice A len c] 32)) := nextA (Mem.start w) _
  have HB := Lib.hid hb
  clear hb
  have hc : z = 1 ∨ z = 2 ∨ z = 4 ∨ z = 8 ∨ (z ≠ 1 ∧ z ≠ 2 ∧ z ≠ 4 ∧ z ≠ 8) := by omega
  rcases hc with rfl | rfl | rfl | rfl | ⟨e1, e2, e4, e8⟩
  case inr.inr.inr.inr =>
    have hz : sizeI z = 0 := by rw [sizeI, if_neg (by simp [e1, e2, e4, e8])]
    have f1 : (z == 1) = false := by simpa using e1
    have f2 : (z == 2) = false := by simpa using e2
    have f4 : (z == 4) = false := by simpa using e4
    have f8 : (z == 8) = false := by simpa using e8
    rw [hz]
    clear e1 e2 e4 e8 hz
    go_enter Try.func30, Try.ntmps30
    go_wp2_with fail
    go_ret
    exact ⟨rfl, HB.out⟩
  all_goals
    go_enter Try.func30, Try.ntmps30
    go_wp2_with fail
    go_ret
    exact ⟨rfl, HB.out⟩

/-- What a call that puts a field leaves. -/
def bytesOf (z : Int) (n : Nat) (b : List UInt8) : List UInt8 := if sizeI z = 0 then b else be (sizeI z).toNat n
theorem put_keep {base p : Nat} {w0 w : World} {l : List UInt8} (h : Stg base w0 p l w) (o : Obj) : Stg base w0 p l (w.alloc o) := h.keep (nextA (Mem.start w) o)
set_option maxHeartbeats 1000000 in
theorem put_stg {base p : Nat} {w0 w : World} {l : List UInt8} (h : Stg base w0 p l w) (hlen : l.length ≤ 1000000) (z : Int) (n : Nat) (hn : n < 256 ^ 8) (A : Option Addr) (b : List UInt8) (c : Nat) (hb : b.length ≤ 1000000) (hB : Bytes w w.heap.size A b) :
    Calls Try.prog 11 #[.pointer (some ⟨p, 0, none⟩), .agg #[.int .u8 z, .int .u64 (n : Int), .slice A b.length c]] w (fun e w' => e = .returned (.tuple #[]) ∧ Stg base w0 p (l ++ bytesOf z n b) w') := by
  have S0 := Lib.hid (put_keep h (.cells #[.int .u8 z, .int .u64 (n : Int), .slice A b.length c] 32))
  have B0 := Lib.hid (show Bytes (w.alloc (.cells #[.int .u8 z, .int .u64 (n : Int), .slice A b.length c] 32)) (w.alloc (.cells #[.int .u8 z, .int .u64 (n : Int), .slice A b.length c] 32)).heap.size A b from (hB.below (nextA (Mem.start w) _)).up (nextA (Mem.start w) _).size)
  have K0 := Lib.hid (Blk.new w 32 #[.int .u8 z, .int .u64 (n : Int), .slice A b.length c])
  have HN := Lib.hid hn
  have HL := Lib.hid hlen
  have HLb := Lib.hid hb
  clear h hlen hb hB hn
  have e : bytesOf z n b = if sizeI z = 0 then b else be (sizeI z).toNat n := rfl
  generalize bytesOf z n b = r at *
  have HR := Lib.hid e
  clear e
  go_enter Try.func11, Try.ntmps11
  go_wp2_with fail
  refine (size_any _ z n A b.length c).mono ?_
  rintro e w1 ⟨rfl, hb1⟩
  have S1 := Lib.hid (S0.out.keep hb1)
  have B1 := Lib.hid ((B0.out.below hb1).up hb1.size)
  have k1 := K0.out.keep hb1
  have hc1 := k1.cell 1
  have hc2 := k1.cell 2
  simp at hc1 hc2
  clear S0 B0 K0 k1 hb1
  have hc : sizeI z = 1 ∨ sizeI z = 2 ∨ sizeI z = 4 ∨ sizeI z = 8 ∨ sizeI z = 0 := by
    unfold sizeI; split <;> omega
  generalize sizeI z = y at *
  rcases hc with rfl | rfl | rfl | rfl | rfl
  · go_wp2_with fail
    refine (byte_stg S1.out HL.out _ (n % 256 ^ 1) (by first | (rw [wrap8]; omega) | omega) (Nat.mod_lt _ (by decide))).mono ?_
    rintro e w2 ⟨rfl, hs⟩
    have S2 := Lib.hid hs
    clear hs S1 B1
    go_wp2_with fail
    go_end0
    exact ⟨rfl, by rw [HR.out]; have := S2.out; rw [be_mod] at this; exact this⟩
  · go_wp2_with fail
    refine (short_stg S1.out HL.out _ (n % 256 ^ 2) (by first | (rw [wrap16]; omega) | omega) (Nat.mod_lt _ (by decide))).mono ?_
    rintro e w2 ⟨rfl, hs⟩
    have S2 := Lib.hid hs
    clear hs S1 B1
    go_wp2_with fail
    go_end0
    exact ⟨rfl, by rw [HR.out]; have := S2.out; rw [be_mod] at this; exact this⟩
  · go_wp2_with fail
    refine (word_stg S1.out HL.out _ (n % 256 ^ 4) (by omega) (Nat.mod_lt _ (by decide))).mono ?_
    rintro e w2 ⟨rfl, hs⟩
    have S2 := Lib.hid hs
    clear hs S1 B1
    go_wp2_with fail
    go_end0
    exact ⟨rfl, by rw [HR.out]; have := S2.out; rw [be_mod] at this; exact this⟩
  · go_wp2_with fail
    refine (long_stg S1.out HL.out _ n rfl HN.out).mono ?_
    rintro e w2 ⟨rfl, hs⟩
    have S2 := Lib.hid hs
    clear hs S1 B1
    go_wp2_with fail
    go_end0
    exact ⟨rfl, by rw [HR.out]; exact S2.out⟩
  · go_wp2_with fail
    refine (raw_stg S1.out HL.out A b _ c rfl HLb.out B1.out).mono ?_
    rintro e w2 ⟨rfl, hs⟩
    have S2 := Lib.hid hs
    clear hs S1 B1
    go_wp2_with fail
    go_end0
    exact ⟨rfl, by rw [HR.out]; exact S2.out⟩
end Go.Proofs.Ytbinffclijjhlaa.FdW
