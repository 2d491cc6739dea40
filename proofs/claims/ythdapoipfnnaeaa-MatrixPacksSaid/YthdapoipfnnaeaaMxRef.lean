/- The document's Right, Same, None; plain, copied, same, Small. -/
import Derived.Test.YthdapoipfnnaeaaMxRight
namespace Go.Proofs.Ythdapoipfnnaeaa.MxW
open Go.RowKit Go.Shelf Mem Gf FdW Mx Rng
set_option linter.unusedVariables false

set_option maxRecDepth 100000 in
set_option maxHeartbeats 1000000 in
theorem rright_any (w : World) (R C : Int) (A : Option Addr) (n cap : Nat) : Calls Try.prog 37 #[.agg #[.int .i64 R, .int .i64 C, .slice A n cap]] w (BoolOk w (rightB R C n)) := by
  by_cases h1 : 0 ≤ R
  · have d1 : decide (0 ≤ R) = true := decide_eq_true h1
    by_cases h2 : 0 ≤ C
    · have d2 : decide (0 ≤ C) = true := decide_eq_true h2
      by_cases h3 : R ≤ 65536
      · have d3 : decide (R ≤ 65536) = true := decide_eq_true h3
        by_cases h4 : C ≤ 65536
        · have d4 : decide (C ≤ 65536) = true := decide_eq_true h4
          obtain ⟨p, hp⟩ : ∃ p, R * C = p := ⟨_, rfl⟩
          have hw : wrap64 p = p := by
            obtain ⟨r, hr⟩ : ∃ r : Nat, R = (r : Int) := ⟨R.toNat, by omega⟩
            obtain ⟨c, hc⟩ : ∃ c : Nat, C = (c : Int) := ⟨C.toNat, by omega⟩
            have h1 : r * c ≤ 65536 * 65536 := Nat.mul_le_mul (by omega) (by omega)
            have h2 : p = ((r * c : Nat) : Int) := by rw [← hp, hr, hc, Int.natCast_mul]
            unfold wrap64; omega
          have hb : rightB R C n = ((n : Int) == p) := by
            unfold rightB
            rw [Bool.eq_iff_iff, decide_eq_true_iff, beq_iff_eq, hp]
            exact ⟨fun h => h.2.2.2.2, fun e => ⟨h1, h2, h3, h4, e⟩⟩
          rw [hb]
          clear hb h1 h2 h3 h4
          go_enter Try.func37, Try.ntmps37
          go_wp2_with fail
          go_ret
          exact ⟨rfl, nextA (Mem.start w) _⟩
        · have d4 : decide (C ≤ 65536) = false := decide_eq_false h4
          rw [show rightB R C n = false from decide_eq_false fun h => h4 h.2.2.2.1]
          clear h1 h2 h3 h4
          go_enter Try.func37, Try.ntmps37
          go_wp2_with fail
          go_ret
          exact ⟨rfl, nextA (Mem.start w) _⟩
      · have d3 : decide (R ≤ 65536) = false := decide_eq_false h3
        rw [show rightB R C n = false from decide_eq_false fun h => h3 h.2.2.1]
        clear h1 h2 h3
        go_enter Try.func37, Try.ntmps37
        go_wp2_with fail
        go_ret
        exact ⟨rfl, nextA (Mem.start w) _⟩
    · have d2 : decide (0 ≤ C) = false := decide_eq_false h2
      rw [show rightB R C n = false from decide_eq_false fun h => h2 h.2.1]
      clear h1 h2
      go_enter Try.func37, Try.ntmps37
      go_wp2_with fail
      go_ret
      exact ⟨rfl, nextA (Mem.start w) _⟩
  · have d1 : decide (0 ≤ R) = false := decide_eq_false h1
    rw [show rightB R C n = false from decide_eq_false fun h => h1 h.1]
    clear h1
    go_enter Try.func37, Try.ntmps37
    go_wp2_with fail
    go_ret
    exact ⟨rfl, nextA (Mem.start w) _⟩
set_option maxRecDepth 100000 in
set_option maxHeartbeats 1000000 in
theorem rsame_any (w : World) (R C R' C' : Int) (A B : Option Addr) (a b : List UInt8) (n c m d M N : Nat) (hn : a.length = n) (hm : b.length = m) (hM : M ≤ w.heap.size) (hN : N ≤ w.heap.size) (hA : Bytes w M A a) (hB : Bytes w N B b) :
    Calls Try.prog 25 #[.agg #[.int .i64 R, .int .i64 C, .slice A n c], .agg #[.int .i64 R', .int .i64 C', .slice B m d]] w (BoolOk w (sameB R C R' C' a b)) := by
  obtain ⟨w2, hw2⟩ : ∃ x : World, (w.alloc (.cells #[.int .i64 R, .int .i64 C, .slice A n c] 38)).alloc (.cells #[.int .i64 R', .int .i64 C', .slice B m d] 38) = x := ⟨_, rfl⟩
  have hb : Below w.heap.size w w2 := by rw [← hw2]; exact nextA (nextA (Mem.start w) _) _
  have HW2 := Lib.hid hw2
  have q1 := convB (hA.below (hb.mono hM)) n c hn.symm
  have q2 := convB (hB.below (hb.mono hN)) m d hm.symm
  have q3 := str_beq a b
  rw [← hw2] at q1 q2
  obtain ⟨x, hx⟩ : ∃ x, str a = x := ⟨_, rfl⟩
  obtain ⟨y, hy⟩ : ∃ y, str b = y := ⟨_, rfl⟩
  rw [hx] at q1 q3
  rw [hy] at q2 q3
  have H3 := Lib.hid q3
  have HB := Lib.hid hb
  clear hb hw2 hA hB q3 hx hy
  by_cases h1 : R = R'
  · have d1 : (R == R') = true := by simp [h1]
    by_cases h2 : C = C'
    · have d2 : (C == C') = true := by simp [h2]
      have hs : sameB R C R' C' a b = decide (a = b) := by unfold sameB; simp [h1, h2]
      rw [hs]
      clear hs h1 h2 hn hm
      go_enter Try.func25, Try.ntmps25
      go_wp2_with fail
      rw [HW2.out]
      go_ret
      refine ⟨?_, HB.out⟩
      rw [← H3.out]; rfl
    · have d2 : (C == C') = false := by simp [h2]
      have hs : sameB R C R' C' a b = false := by unfold sameB; simp [h2]
      rw [hs]
      clear hs h1 h2 hn hm q1 q2
      go_enter Try.func25, Try.ntmps25
      go_wp2_with fail
      rw [HW2.out]
      go_ret
      exact ⟨rfl, HB.out⟩
  · have d1 : (R == R') = false := by simp [h1]
    have hs : sameB R C R' C' a b = false := by unfold sameB; simp [h1]
    rw [hs]
    clear hs h1 hn hm q1 q2
    go_enter Try.func25, Try.ntmps25
    go_wp2_with fail
    rw [HW2.out]
    go_ret
    exact ⟨rfl, HB.out⟩
def PlainOk (w : World) (x0 x1 x2 : Value) (e : Ending) (w' : World) : Prop := e = .returned (.agg #[x0, x1, x2]) ∧ Below w.heap.size w w'
set_option maxRecDepth 100000 in
theorem plain_any (w : World) (R C : Int) (A : Option Addr) (n c : Nat) : Calls Try.prog 20 #[.agg #[.int .i64 R, .int .i64 C, .slice A n c]] w (PlainOk w (.int .i64 R) (.int .i64 C) (.slice A n c)) := by
  go_enter Try.func20, Try.ntmps20
  go_wp2_with fail
  refine bodyPost_ret (v := .agg #[.int .i64 R, .int .i64 C, .slice A n c]) (by simp [results, Try.results20, go_sem]) rfl ⟨rfl, ?_⟩
  exact nextA (nextA (Mem.start w) _) _
/-- What copied leaves. -/
def CopyOk (w : World) (R C : Int) (l : List UInt8) (e : Ending) (w' : World) : Prop := ∃ A c, e = .returned (.agg #[.int .i64 R, .int .i64 C, .slice A l.length c]) ∧ l.length ≤ c ∧ Nw w.heap.size w' A l ∧ Below w.heap.size w w'
theorem rowNw {B : Nat} {w : World} {A : Option Addr} {l : List UInt8} (h : Row w B A (l.map u8v)) : Nw B w A l := ⟨h.cells, fun b o e hl => by
  obtain ⟨g, cur, T, fz, e2, hg, _⟩ := h (by rw [List.length_map]; exact hl)
  rw [e] at e2; injection e2 with e2; have := congrArg Addr.block e2; dsimp only at this; omega⟩
set_option maxRecDepth 100000 in
set_option maxHeartbeats 1000000 in
theorem copied_any (w : World) (R C : Int) (A : Option Addr) (l : List UInt8) (n c : Nat) (hn : l.length = n) (hA : Bytes w w.heap.size A l) : Calls Try.prog 17 #[.agg #[.int .i64 R, .int .i64 C, .slice A n c]] w (CopyOk w R C l) := by
  obtain ⟨g0, hg0⟩ : ∃ x, w.heap.size + 1 = x := ⟨_, rfl⟩
  obtain ⟨w2, hw2⟩ : ∃ x : World, (w.alloc (.cells #[.int .i64 R, .int .i64 C, .slice A n c] 27)).alloc (.cells #[.int .i64 0, .int .i64 0, .slice none 0 0] 27) = x := ⟨_, rfl⟩
  have hb : Below w.heap.size w w2 := by rw [← hw2]; exact nextA (nextA (Mem.start w) _) _
  have hB : Blk w2 g0 27 #[.int .i64 0, .int .i64 0, .slice none 0 0] := by
    have := Blk.new (w.alloc (.cells #[.int .i64 R, .int .i64 C, .slice A n c] 27)) 27 #[.int .i64 0, .int .i64 0, .slice none 0 0]
    rw [World.size_alloc, hg0] at this
    rw [← hw2]; exact this
  have q1 := convB (hA.below hb) n c hn.symm
  rw [← hw2] at q1
  have hle : w.heap.size ≤ g0 := by omega
  have HW2 := Lib.hid hw2
  have HG := Lib.hid hg0
  have HB := Lib.hid (And.intro hb (And.intro hB hle))
  clear hb hw2 hA hB hg0 hle
  go_enter Try.func17, Try.ntmps17
  go_wp2_with ((with_reducible show wpList _ _ _ ((⟨some 10, _, _, _, _, _⟩ : Oper) :: _) _ _); rw [HW2.out, HG.out]; refine wpList_bytesOf _ (by rfl) 9 22 _ rfl 5 Try.underlying9 Try.underlying22 Try.underlying5 l rfl ?_; intro ck w3 hck hr hbl hs; rw [hn]; (have HR := Lib.hid (And.intro hck (And.intro hr hbl))); (obtain ⟨⟨c0, c1, c2⟩, f0, f1, f2⟩ := cells3 (HB.out.2.1.keep hbl)); (have HB3 := Lib.hid (HB.out.2.1.keep hbl)); clear hck hr hbl hs q1)
  have h3 := set3 HB3.out (.int .i64 R) (.int .i64 C) (.slice (some ⟨w2.heap.size, 0, none⟩) n ck)
  obtain ⟨w4, hw4⟩ : ∃ x : World, ((w3.setCell ⟨g0, 0, none⟩ (.int .i64 R)).setCell ⟨g0, 1, none⟩ (.int .i64 C)).setCell ⟨g0, 2, none⟩ (.slice (some ⟨w2.heap.size, 0, none⟩) n ck) = x := ⟨_, rfl⟩
  rw [hw4] at h3 ⊢
  obtain ⟨⟨d0, d1, d2⟩, _⟩ := cells3 h3.1
  refine bodyPost_ret (v := .agg #[.int .i64 R, .int .i64 C, .slice (some ⟨w2.heap.size, 0, none⟩) n ck]) (by simp [results, Try.results17, go_sem, d0, d1, d2]) rfl ?_
  have hs : w.heap.size ≤ w2.heap.size := HB.out.1.size
  have hlt := HB.out.2.1.lt
  have hr : Row w4 w2.heap.size (some ⟨w2.heap.size, 0, none⟩) (l.map u8v) := HR.out.2.1.fr h3.2 (fun g e1 e2 => by injection e1 with e1; have := congrArg Addr.block e1; dsimp only at this; omega)
  have hb3 : Below w.heap.size w w3 := HB.out.1.trans (HR.out.2.2.mono hs)
  exact ⟨some ⟨w2.heap.size, 0, none⟩, ck, by rw [hn], HR.out.1, (rowNw hr).mono hs, hb3.trans (h3.2.below hb3.size fun k e => by rw [e]; exact HB.out.2.2)⟩
/-- Small at bound t. -/
def smallB (t R C : Int) (n : Nat) : Bool := decide (R ≤ t ∧ C ≤ t ∧ (n : Int) ≤ t * t + 9)
set_option maxRecDepth 100000 in
set_option maxHeartbeats 1000000 in
theorem small_any (w : World) (t R C : Int) (ht : 0 ≤ t ∧ t ≤ 100) (A : Option Addr) (n c : Nat) : Calls Try.prog 16 #[.agg #[.int .i64 R, .int .i64 C, .slice A n c], .int .i64 t] w (BoolOk w (smallB t R C n)) := by
  obtain ⟨p, hp⟩ : ∃ p, t * t = p := ⟨_, rfl⟩
  have hp1 : 0 ≤ p ∧ p ≤ 10000 := by
    obtain ⟨k, rfl⟩ : ∃ k : Nat, t = (k : Int) := ⟨t.toNat, by omega⟩
    have h1 : k * k ≤ 100 * 100 := Nat.mul_le_mul (by omega) (by omega)
    have h2 : p = ((k * k : Nat) : Int) := by rw [← hp, Int.natCast_mul]
    omega
  have hw : wrap64 p = p := by unfold wrap64; omega
  have hp2 := hp1.1
  have hp3 := hp1.2
  clear hp1
  by_cases h1 : R ≤ t
  · have d1 : decide (R ≤ t) = true := decide_eq_true h1
    by_cases h2 : C ≤ t
    · have d2 : decide (C ≤ t) = true := decide_eq_true h2
      have hb : smallB t R C n = decide ((n : Int) ≤ p + 9) := by
        unfold smallB
        rw [hp, Bool.eq_iff_iff, decide_eq_true_iff, decide_eq_true_iff]
        exact ⟨fun h => h.2.2, fun h => ⟨h1, h2, h⟩⟩
      rw [hb]
      clear hb h1 h2
      go_enter Try.func16, Try.ntmps16
      go_wp2_with fail
      go_ret
      exact ⟨rfl, nextA (Mem.start w) _⟩
    · have d2 : decide (C ≤ t) = false := decide_eq_false h2
      rw [show smallB t R C n = false from decide_eq_false fun h => h2 h.2.1]
      clear h1 h2
      go_enter Try.func16, Try.ntmps16
      go_wp2_with fail
      go_ret
      exact ⟨rfl, nextA (Mem.start w) _⟩
  · have d1 : decide (R ≤ t) = false := decide_eq_false h1
    rw [show smallB t R C n = false from decide_eq_false fun h => h1 h.1]
    clear h1
    go_enter Try.func16, Try.ntmps16
    go_wp2_with fail
    go_ret
    exact ⟨rfl, nextA (Mem.start w) _⟩
end Go.Proofs.Ythdapoipfnnaeaa.MxW
