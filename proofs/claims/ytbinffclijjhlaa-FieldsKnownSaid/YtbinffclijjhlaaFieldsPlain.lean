/- The law's helpers: plain, few. -/
import Derived.Test.YtbinffclijjhlaaFieldsBytes
namespace Go.Proofs.Ytbinffclijjhlaa.FdW
open Go.RowKit Mem Fds
open Go.Proofs.Ytbinffclijjhlaa.Open (OneF Flds)
set_option linter.unusedVariables false

theorem drew1 (w : World) : Below w.heap.size w w.drew := nextN (Mem.start w) 1
theorem bytes_any (w : World) (n : Nat) (hn : n < 256 ^ 8) (y : Int) (hy : y = 1 ∨ y = 2 ∨ y = 4 ∨ y = 8) :
    Calls Try.prog 31 #[.int .u64 (n : Int), .int .i64 y] w (NewOk w (be y.toNat n)) := by
  rcases hy with rfl | rfl | rfl | rfl
  · exact bytes1_any w n hn
  · exact bytes2_any w n hn
  · exact bytes4_any w n hn
  · exact bytes8_any w n hn
/-- A slice that reads so, in new memory or in what was there. -/
def PlainOk (w : World) (l : List UInt8) (e : Ending) (w' : World) : Prop :=
  ∃ A c, e = .returned (.slice A l.length c) ∧ Bytes w' w'.heap.size A l ∧ Below w.heap.size w w'
set_option maxHeartbeats 1000000 in
theorem plain_any (w : World) (z : Int) (n : Nat) (hn : n < 256 ^ 8) (A : Option Addr) (b : List UInt8) (c : Nat) (hB : Bytes w w.heap.size A b) :
    Calls Try.prog 12 #[.agg #[.int .u8 z, .int .u64 (n : Int), .slice A b.length c]] w (PlainOk w (bytesOf z n b)) := by
  have hy : sizeI z = 0 ∨ (sizeI z ≠ 0 ∧ (sizeI z = 1 ∨ sizeI z = 2 ∨ sizeI z = 4 ∨ sizeI z = 8)) := by
    unfold sizeI; split <;> omega
  have b1 := nextA (Mem.start w) (.cells #[.int .u8 z, .int .u64 (n : Int), .slice A b.length c] 32)
  have K0 := Lib.hid (Blk.new w 32 #[.int .u8 z, .int .u64 (n : Int), .slice A b.length c])
  have BB := Lib.hid b1
  have HA := Lib.hid hB
  have HN := Lib.hid hn
  clear b1 hB hn
  rcases hy with h0 | ⟨h0, h1⟩
  · have e : bytesOf z n b = b := by rw [bytesOf, if_pos h0]
    rw [e]
    clear e
    have SZ := Lib.hid h0
    clear h0
    go_enter Try.func12, Try.ntmps12
    go_wp2_with fail
    refine (size_any _ z n A b.length c).mono ?_
    rintro e w1 ⟨rfl, hb1⟩
    rw [SZ.out]
    have k1 := K0.out.keep hb1
    have hc2 := k1.cell 2
    simp at hc2
    have B1 := Lib.hid (next BB.out hb1)
    clear hb1 k1 BB K0
    go_wp2_with fail
    go_ret
    exact ⟨A, c, rfl, (HA.out.below B1.out).up B1.out.size, B1.out⟩
  · have e : bytesOf z n b = be (sizeI z).toNat n := by rw [bytesOf, if_neg h0]
    rw [e]
    clear e
    have H1 := Lib.hid h1
    have hnb : (sizeI z == 0) = false := by simpa using h0
    clear h1 h0
    go_enter Try.func12, Try.ntmps12
    go_wp2_with fail
    refine (size_any _ z n A b.length c).mono ?_
    rintro e w1 ⟨rfl, hb1⟩
    have k1 := K0.out.keep hb1
    have hc0 := k1.cell 0
    have hc1 := k1.cell 1
    have hc2 := k1.cell 2
    simp at hc0 hc1 hc2
    have K1 := Lib.hid k1
    have B1 := Lib.hid (next BB.out hb1)
    clear hb1 k1 BB K0 HA
    go_wp2_with fail
    go_cut [2] (fun s wx => ∃ A c, s = .slice A (be (sizeI z).toNat n).length c ∧ Bytes wx wx.heap.size A (be (sizeI z).toNat n) ∧ Below w.heap.size w wx)
    case first =>
      go_region_with (first
        | (go_at_call 30; go_loud (refine (size_any _ z n A b.length c).mono ?_; rintro e w2 ⟨rfl, hb2⟩; have hb3 := next (drew1 w1) hb2; have k2 := K1.out.keep hb3; have hd0 := k2.cell 0; have hd1 := k2.cell 1; have hd2 := k2.cell 2; simp at hd0 hd1 hd2))
        | (go_at_call 31; refine (bytes_any _ n HN.out (sizeI z) H1.out).mono ?_; (rintro e w4 ⟨A4, c4, rfl, ho4, hb4⟩)))
      all_goals (go_wp2_with fail; go_meet)
      all_goals exact ⟨_, _, rfl, ho4.bytes, next (next B1.out hb3) hb4⟩
    case rest =>
      obtain ⟨A4, c4, rfl, hby, hbe⟩ := hcut
      have HH := Lib.hid (And.intro hby hbe)
      clear hby hbe
      go_wp2_with fail
      go_ret
      exact ⟨_, _, rfl, HH.out.1, HH.out.2⟩
end Go.Proofs.Ytbinffclijjhlaa.FdW
