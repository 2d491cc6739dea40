/- Is a matrix right? Are two the same? Small, plain, copied. -/
import Derived.Test.YthdapoipfnnaeaaMxOne
namespace Go.Proofs.Ythdapoipfnnaeaa.MxW
open Go.RowKit Go.Shelf Mem Gf FdW Mx Rng
set_option linter.unusedVariables false

theorem run_min2 (x y z : Int) (h : min x y = z) (w : World) : (Builtin.min_ #[3, 3] 3 #[.int .i64 x, .int .i64 y]).run Try.prog w = .ok (.int .i64 z) w := by
  subst h
  rcases Int.lt_or_le y x with h | h
  · simp [Builtin.min_, Builtin.min2, h, Int.min_eq_right (Int.le_of_lt h)]
  · simp [Builtin.min_, Builtin.min2, Int.min_eq_left h, Int.not_lt.2 h]
theorem run_max2 (x y z : Int) (h : max x y = z) (w : World) : (Builtin.max_ #[3, 3] 3 #[.int .i64 x, .int .i64 y]).run Try.prog w = .ok (.int .i64 z) w := by
  subst h
  rcases Int.lt_or_le x y with h | h
  · simp [Builtin.max_, Builtin.max2, h, Int.max_eq_right (Int.le_of_lt h)]
  · simp [Builtin.max_, Builtin.max2, Int.max_eq_left h, Int.not_lt.2 h]
def rightB (R C : Int) (n : Nat) : Bool := decide (0 ≤ R ∧ 0 ≤ C ∧ R ≤ 65536 ∧ C ≤ 65536 ∧ (n : Int) = R * C)
theorem right_nat {R C : Int} {n : Nat} (h : rightB R C n = true) : ∃ r c : Nat, R = (r : Int) ∧ C = (c : Int) ∧ r ≤ 65536 ∧ c ≤ 65536 ∧ n = r * c := by
  have h := of_decide_eq_true h
  obtain ⟨h1, h2, h3, h4, h5⟩ := h
  refine ⟨R.toNat, C.toNat, by omega, by omega, by omega, by omega, ?_⟩
  have e1 : ((R.toNat : Nat) : Int) = R := by omega
  have e2 : ((C.toNat : Nat) : Int) = C := by omega
  have : (n : Int) = ((R.toNat * C.toNat : Nat) : Int) := by rw [Int.natCast_mul, e1, e2]; exact h5
  exact Int.ofNat.inj this
def BoolOk (w : World) (b : Bool) (e : Ending) (w' : World) : Prop := e = .returned (.bool b) ∧ Below w.heap.size w w'
set_option maxRecDepth 100000 in
set_option maxHeartbeats 1000000 in
theorem right_any (w : World) (R C : Int) (A : Option Addr) (n cap : Nat) : Calls Try.prog 26 #[.agg #[.int .i64 R, .int .i64 C, .slice A n cap]] w (BoolOk w (rightB R C n)) := by
  obtain ⟨mn, hmn⟩ : ∃ x, min R C = x := ⟨_, rfl⟩
  obtain ⟨mx, hmx⟩ : ∃ x, max R C = x := ⟨_, rfl⟩
  have m1 := fun W => run_min2 R C mn hmn W
  have m2 := fun W => run_max2 R C mx hmx W
  have HM := Lib.hid (And.intro hmn hmx)
  clear hmn hmx
  rcases Int.lt_or_le mn 0 with h | h
  · have d1 : decide (0 ≤ mn) = false := decide_eq_false (by omega)
    have hb : rightB R C n = false := decide_eq_false (by have := HM.out; omega)
    rw [hb]
    clear hb h
    go_enter Try.func26, Try.ntmps26
    go_wp2_with fail
    go_ret
    exact ⟨rfl, nextA (Mem.start w) _⟩
  · have d1 : decide (0 ≤ mn) = true := decide_eq_true h
    rcases Int.lt_or_le 65536 mx with h' | h'
    · have d2 : decide (mx ≤ 65536) = false := decide_eq_false (by omega)
      have hb : rightB R C n = false := decide_eq_false (by have := HM.out; omega)
      rw [hb]
      clear hb h h'
      go_enter Try.func26, Try.ntmps26
      go_wp2_with fail
      go_ret
      exact ⟨rfl, nextA (Mem.start w) _⟩
    · have d2 : decide (mx ≤ 65536) = true := decide_eq_true h'
      obtain ⟨p, hp⟩ : ∃ p, R * C = p := ⟨_, rfl⟩
      have hw : wrap64 p = p := by
        have hR : 0 ≤ R ∧ 0 ≤ C ∧ R ≤ 65536 ∧ C ≤ 65536 := by have := HM.out; omega
        obtain ⟨r, hr⟩ : ∃ r : Nat, R = (r : Int) := ⟨R.toNat, by omega⟩
        obtain ⟨c, hc⟩ : ∃ c : Nat, C = (c : Int) := ⟨C.toNat, by omega⟩
        have h1 : r * c ≤ 65536 * 65536 := Nat.mul_le_mul (by omega) (by omega)
        have h2 : p = ((r * c : Nat) : Int) := by rw [← hp, hr, hc, Int.natCast_mul]
        unfold wrap64; omega
      have hb : rightB R C n = ((n : Int) == p) := by
        unfold rightB
        rw [Bool.eq_iff_iff, decide_eq_true_iff, beq_iff_eq, hp]
        have := HM.out
        constructor
        · exact fun h => h.2.2.2.2
        · exact fun e => ⟨by omega, by omega, by omega, by omega, e⟩
      rw [hb]
      have HB := Lib.hid hb
      clear hb h h'
      go_enter Try.func26, Try.ntmps26
      go_wp2_with fail
      go_ret
      exact ⟨rfl, nextA (Mem.start w) _⟩
/-- bytes.Equal. -/
theorem convB {w : World} {B : Option Addr} {l : List UInt8} {M : Nat} (h : Bytes w M B l) (n c : Nat) (hn : n = l.length) : (convert 22 9 (.slice B n c)).run Try.prog w = .ok (.string (str l)) w := by
  subst hn; exact run_str w 22 5 Try.underlying22 Try.underlying5 h c 9 Try.underlying9
theorem str_beq (a b : List UInt8) : ((str a).toList == (str b).toList) = decide (a = b) := by
  rw [str_toList, str_toList, Bool.eq_iff_iff, beq_iff_eq, decide_eq_true_iff]
theorem equal_any (w : World) (A B : Option Addr) (a b : List UInt8) (n c m d M N : Nat) (hn : a.length = n) (hm : b.length = m) (hA : Bytes w M A a) (hB : Bytes w N B b) :
    Calls Try.prog 56 #[.slice A n c, .slice B m d] w fun e w' => e = .returned (.bool (decide (a = b))) ∧ w = w' := by
  have h1 := convB hA n c hn.symm
  have h2 := convB hB m d hm.symm
  have h3 := str_beq a b
  obtain ⟨x, hx⟩ : ∃ x, str a = x := ⟨_, rfl⟩
  obtain ⟨y, hy⟩ : ∃ y, str b = y := ⟨_, rfl⟩
  rw [hx] at h1 h3
  rw [hy] at h2 h3
  have H3 := Lib.hid h3
  clear hx hy hA hB hn hm h3
  go_enter Try.func56, Try.ntmps56
  go_wp2_with fail
  go_ret
  refine ⟨?_, rfl⟩
  rw [← H3.out]; rfl
theorem sameBytes_any (w : World) (A B : Option Addr) (a b : List UInt8) (n c m d M N : Nat) (hn : a.length = n) (hm : b.length = m) (hA : Bytes w M A a) (hB : Bytes w N B b) :
    Calls Try.prog 41 #[.slice A n c, .slice B m d] w fun e w' => e = .returned (.bool (decide (a = b))) ∧ w = w' := by
  have h1 := convB hA n c hn.symm
  have h2 := convB hB m d hm.symm
  have h3 := str_beq a b
  obtain ⟨x, hx⟩ : ∃ x, str a = x := ⟨_, rfl⟩
  obtain ⟨y, hy⟩ : ∃ y, str b = y := ⟨_, rfl⟩
  rw [hx] at h1 h3
  rw [hy] at h2 h3
  have H3 := Lib.hid h3
  clear hx hy hA hB hn hm h3
  go_enter Try.func41, Try.ntmps41
  go_wp2_with fail
  go_ret
  refine ⟨?_, rfl⟩
  rw [← H3.out]; rfl
def sameB (R C R' C' : Int) (a b : List UInt8) : Bool := decide (R = R' ∧ C = C' ∧ a = b)
set_option maxRecDepth 100000 in
set_option maxHeartbeats 1000000 in
theorem same_any (w : World) (R C R' C' : Int) (A B : Option Addr) (a b : List UInt8) (n c m d M N : Nat) (hn : a.length = n) (hm : b.length = m) (hM : M ≤ w.heap.size) (hN : N ≤ w.heap.size) (hA : Bytes w M A a) (hB : Bytes w N B b) :
    Calls Try.prog 24 #[.agg #[.int .i64 R, .int .i64 C, .slice A n c], .agg #[.int .i64 R', .int .i64 C', .slice B m d]] w (BoolOk w (sameB R C R' C' a b)) := by
  obtain ⟨w2, hw2⟩ : ∃ x : World, (w.alloc (.cells #[.int .i64 R, .int .i64 C, .slice A n c] 27)).alloc (.cells #[.int .i64 R', .int .i64 C', .slice B m d] 27) = x := ⟨_, rfl⟩
  have hb : Below w.heap.size w w2 := by rw [← hw2]; exact nextA (nextA (Mem.start w) _) _
  have HW2 := Lib.hid hw2
  have HE := Lib.hid (And.intro hb (equal_any w2 A B a b n c m d M N hn hm (hA.below (hb.mono hM)) (hB.below (hb.mono hN))))
  clear hb hw2 hA hB
  by_cases h1 : R = R'
  · have d1 : (R == R') = true := by simp [h1]
    by_cases h2 : C = C'
    · have d2 : (C == C') = true := by simp [h2]
      have hs : sameB R C R' C' a b = decide (a = b) := by unfold sameB; simp [h1, h2]
      rw [hs]
      have HS := Lib.hid hs
      clear hs h1 h2 hn hm
      go_enter Try.func24, Try.ntmps24
      go_wp2_with fail
      rw [HW2.out]
      refine HE.out.2.mono ?_
      rintro e w' ⟨rfl, rfl⟩
      go_wp2_with fail
      go_ret
      exact ⟨rfl, HE.out.1⟩
    · have d2 : (C == C') = false := by simp [h2]
      have hs : sameB R C R' C' a b = false := by unfold sameB; simp [h2]
      rw [hs]
      clear hs h1 h2 hn hm
      go_enter Try.func24, Try.ntmps24
      go_wp2_with fail
      rw [HW2.out]
      go_ret
      exact ⟨rfl, HE.out.1⟩
  · have d1 : (R == R') = false := by simp [h1]
    have hs : sameB R C R' C' a b = false := by unfold sameB; simp [h1]
    rw [hs]
    clear hs h1 hn hm
    go_enter Try.func24, Try.ntmps24
    go_wp2_with fail
    rw [HW2.out]
    go_ret
    exact ⟨rfl, HE.out.1⟩
end Go.Proofs.Ythdapoipfnnaeaa.MxW
