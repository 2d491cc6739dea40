/- Solve. -/
import Derived.Test.YthdapoipfnnaeaaMxRn
namespace Go.Proofs.Ythdapoipfnnaeaa.MxW
open Go.RowKit Go.Shelf Mem Gf FdW Mx Rng
open PlW (In)
set_option linter.unusedVariables false

theorem nz_any (w : World) (x : UInt8) : Calls Try.prog 53 #[.int .u8 (x.toNat : Int)] w fun e w' => e = .returned (.bool (nz x)) ∧ w = w' := by
  have h : ((x.toNat : Int) != 0) = nz x := by
    unfold nz
    have := u8_zero x
    rw [bne, bne, this]
  go_enter Try.func53, Try.ntmps53
  go_wp2_with fail
  go_ret
  exact ⟨rfl, rfl⟩
def anyNz (l : List UInt8) : Bool := l.any nz
def IdxOk (w : World) (l : List UInt8) (e : Ending) (w' : World) : Prop := ∃ z : Int, e = .returned (.int .i64 z) ∧ decide (0 ≤ z) = anyNz l ∧ w = w'
theorem anyNz_take {l : List UInt8} {j : Nat} (h : anyNz (l.take j) = false) (hj : j < l.length) (hx : nz l[j] = false) : anyNz (l.take (j + 1)) = false := by
  unfold anyNz at h ⊢
  rw [List.take_succ_eq_append_getElem hj, List.any_append, h]
  simp [hx]
theorem anyNz_hit {l : List UInt8} {j : Nat} (hj : j < l.length) (hx : nz l[j] = true) : anyNz l = true := by
  unfold anyNz
  rw [List.any_eq_true]
  exact ⟨l[j], List.getElem_mem hj, hx⟩
set_option maxRecDepth 100000 in
set_option maxHeartbeats 1000000 in
theorem index_any (w : World) (A : Option Addr) (l : List UInt8) (n c : Nat) (hn : l.length = n) (h9 : (n : Int) ≤ 1000000000) (hA : Bytes w w.heap.size A l) :
    Calls Try.prog 64 #[.slice A n c, .func (.func 53) #[] #[]] w (IdxOk w l) := by
  have HN := Lib.hid hn
  have HA := Lib.hid hA
  clear hn hA
  go_enter Try.func64, Try.ntmps64
  go_wp2_with fail
  go_loopw [8] (fun x wr => ∃ j : Nat, x = .int .i64 (j : Int) ∧ j ≤ n ∧ anyNz (l.take j) = false ∧ wr = w) (fun x _ => n - (intOf x).toNat)
  case atStart => exact ⟨0, rfl, Nat.zero_le _, rfl, rfl⟩
  case round =>
    obtain ⟨j, rfl, hj, h1, rfl⟩ := hrel
    have H1 := Lib.hid h1
    clear h1
    by_cases hjn : j < n
    · have hji : (j : Int) < (n : Int) := by omega
      have hj0 : (0 : Int) ≤ (j : Int) := by omega
      have hjl : j < l.length := by rw [HN.out]; exact hjn
      obtain ⟨b, o, rfl, _, hc⟩ := HA.out.at_ hjl
      obtain ⟨x, hx⟩ : ∃ x, l[j] = x := ⟨_, rfl⟩
      rw [hx] at hc
      have HX := Lib.hid (show j < l.length ∧ ∀ h : j < l.length, l[j] = x from ⟨hjl, fun _ => hx⟩)
      clear hjl hx hj
      cases hz : nz x with
      | true =>
        have HZ := Lib.hid hz
        have hca := nz_any wr x
        rw [hz] at hca
        clear hz
        go_wp2_with fail
        refine hca.mono ?_
        rintro e w' ⟨rfl, rfl⟩
        clear hca
        go_wp2_with fail
        go_ret
        exact ⟨(j : Int), rfl, by
          have h := HX.out.2 HX.out.1
          rw [anyNz_hit HX.out.1 (by rw [h]; exact HZ.out)]; exact decide_eq_true hj0, rfl⟩
      | false =>
        have HZ := Lib.hid hz
        have hca := nz_any wr x
        rw [hz] at hca
        clear hz
        go_wp2_with fail
        refine hca.mono ?_
        rintro e w' ⟨rfl, rfl⟩
        clear hca
        go_wp2_with fail
        go_roundw
        case rel => exact ⟨j + 1, by simp, hjn, anyNz_take H1.out HX.out.1 (by have h := HX.out.2 HX.out.1; rw [h]; exact HZ.out), trivial⟩
        case measure => simp [intOf]; omega
    · obtain rfl : n = j := by omega
      clear hj hjn
      go_wp2_with fail
      go_ret
      exact ⟨-1, rfl, by
        have h := H1.out
        rw [List.take_of_length_le (by rw [HN.out]; exact Nat.le_refl _)] at h
        rw [h]; rfl, rfl⟩
theorem contains_any (w : World) (A : Option Addr) (l : List UInt8) (n c : Nat) (hn : l.length = n) (h9 : (n : Int) ≤ 1000000000) (hA : Bytes w w.heap.size A l) :
    Calls Try.prog 52 #[.slice A n c, .func (.func 53) #[] #[]] w fun e w' => e = .returned (.bool (anyNz l)) ∧ w = w' := by
  have HI := Lib.hid (index_any w A l n c hn h9 hA)
  clear hn h9 hA
  go_enter Try.func52, Try.ntmps52
  go_wp2_with fail
  refine HI.out.mono ?_
  rintro e w' ⟨z, rfl, hz, rfl⟩
  have HZ := Lib.hid hz
  clear hz
  go_wp2_with fail
  go_ret
  exact ⟨by rw [← HZ.out]; rfl, rfl⟩
theorem flat_take {r s c : Nat} {m : M} (h : s ≤ r) : flat s c m = (flat r c m).take (s * c) := by
  refine (flat_ext (by rw [List.length_take, flat_len, Nat.min_eq_left (Nat.mul_le_mul_right c h)]) fun i hi k hk => ?_).symm
  rw [List.getElem?_take, if_pos (idx_lt hi hk)]
  exact flat_get (by omega) hk
end Go.Proofs.Ythdapoipfnnaeaa.MxW
