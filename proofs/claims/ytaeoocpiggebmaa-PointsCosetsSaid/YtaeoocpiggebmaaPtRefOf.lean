/- The document's points: Of, Common. -/
import Derived.Test.YtaeoocpiggebmaaPtSpread
import Derived.Test.YtaeoocpiggebmaaFdRef
namespace Go.Proofs.Ytaeoocpiggebmaa.PtW
open Go.RowKit Go.Shelf Mem Gf FdW Rng
set_option linter.unusedVariables false
set_option linter.unusedSimpArgs false

/-- What the document's Of leaves. -/
def ROk (w : World) (l : List UInt8) (e : Ending) (w' : World) : Prop :=
  ∃ A c, e = .returned (.tuple #[.slice A l.length c, .int .i64 0]) ∧ Mem.Own w' w.heap.size 5 A c (l.map u8v) ∧ Below w.heap.size w w'
def RNo (w : World) (e : Ending) (w' : World) : Prop := e = .returned (.tuple #[.slice none 0 0, .int .i64 2]) ∧ Below w.heap.size w w'
set_option maxHeartbeats 2000000 in
theorem refOf_bad (w : World) (n : Int) (h : n < 0 ∨ 255 < n) : Calls Try.prog 11 #[.int .i64 n] w (RNo w) := by
  rcases h with h | h
  · go_enter Try.func11, Try.ntmps11
    go_wp2_with fail
    go_ret2
    exact ⟨rfl, Mem.start w⟩
  · have h0 : ¬ n < 0 := by omega
    go_enter Try.func11, Try.ntmps11
    go_wp2_with fail
    go_ret2
    exact ⟨rfl, Mem.start w⟩
theorem pts_succ (k : Nat) : pts (k + 1) = pts k ++ [pl 0 1 k] := by unfold pts; rw [List.range_succ, List.map_append]; rfl
theorem pow2_pl (k : Nat) : pow 2 (k : Int) = pl 0 1 k := by
  rw [pow_two, pl, Nat.zero_add, Nat.one_mul, ← pw_mod k]; congr 1
set_option maxRecDepth 100000 in
set_option maxHeartbeats 2000000 in
theorem refOf_ok (w : World) (n : Nat) (hn : n ≤ 255) : Calls Try.prog 11 #[.int .i64 (n : Int)] w (ROk w (pts n)) := by
  obtain ⟨i0, hi0, hz0, hz1, hz2⟩ := info_parts u8info
  have h1 : (n : Int) ≤ 255 := by omega
  have h0 : (0 : Int) ≤ (n : Int) := by omega
  go_enter Try.func11, Try.ntmps11
  go_wp2_with fail
  go_loopw [4, 5] (fun s i wr => ∃ (k : Nat) (A : Option Addr) (c : Nat), i = .int .i64 (k : Int) ∧ s = .slice A k c ∧ k ≤ n ∧ Mem.Own wr w.heap.size 5 A c ((pts k).map u8v) ∧ Below w.heap.size w wr) (fun _ i _ => n - (intOf i).toNat)
  case atStart => exact ⟨0, none, 0, rfl, rfl, by omega, Mem.Own.nil, Mem.start w⟩
  case round =>
    obtain ⟨k, A, c, rfl, rfl, hk, ho, hb⟩ := hrel
    have HR := Lib.hid (And.intro ho hb)
    have HLN := Lib.hid (show k = ((pts k).map u8v).length from by rw [List.length_map, pts_len])
    clear ho hb
    by_cases hkn : k < n
    · have hki : (k : Int) < (n : Int) := by omega
      have hk0 : (0 : Int) ≤ (k : Int) := by omega
      have HP := Lib.hid (pow2_pl k)
      have HSU := Lib.hid (pts_succ k)
      go_wp2_with fail
      refine (refPow_any 2 2 rfl (k : Int) wr).mono ?_
      rintro e w' ⟨rfl, rfl⟩
      rw [HP.out]
      have HCO := Lib.hid (cells_one wr (.int .u8 ((pl 0 1 k).toNat : Int)) 5 (wr.heap.size + 1) (by omega))
      have HSZ := Lib.hid HR.out.2.size
      go_wp2_with ((with_reducible show wpList _ _ _ ((⟨some 21, _, _, _, _, _⟩ : Oper) :: _) _ _); refine wpList_app _ rfl _ _ _ rfl w.heap.size 5 i0 _ 1 Try.underlying24 hi0 hz0 hz1 hz2 rfl A c _ ((pts k).map u8v) rfl HLN.out (HR.out.1.alloc _) _ _ _ 1 [.int .u8 ((pl 0 1 k).toNat : Int)] rfl rfl HCO.out (by simp [Value.oneCell']) (by rw [← HLN.out]; simp [maxLen]; omega) (by rw [← HLN.out]; simp; omega) (by have := HSZ.out; simp; omega) (k + 1) rfl ?_; intro A2 c2 w2 ho2 hb2 _ _; have H2 := Lib.hid (And.intro ho2 (HR.out.2.trans (Below.trans ((Below.refl _ _).alloc HSZ.out _) hb2))); clear ho2 hb2)
      go_roundw
      case rel =>
        refine ⟨k + 1, A2, c2, by simp, rfl, hkn, ?_, H2.out.2⟩
        have := H2.out.1
        rw [HSU.out, List.map_append]; exact this
      case measure => simp [intOf]; omega
    · obtain rfl : k = n := by omega
      go_wp2_with fail
      go_ret2
      exact ⟨A, c, by rw [pts_len]; rfl, HR.out⟩
end Go.Proofs.Ytaeoocpiggebmaa.PtW
