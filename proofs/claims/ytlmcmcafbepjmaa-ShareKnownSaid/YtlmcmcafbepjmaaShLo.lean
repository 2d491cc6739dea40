/- The law ShareOrder, walked. -/
import Derived.Test.YtlmcmcafbepjmaaShLp
namespace Go.Proofs.Ytlmcmcafbepjmaa.ShW
open Go.RowKit Go.Shelf Mem Fds Bv Rng
set_option linter.unusedVariables false

/-- A share known by letters. -/
structure Ltr (W : World) (s : Sh) (A : Option Addr) (n : Nat) (v e : Int) (B : Option Addr) (m : Nat) : Prop where
  n : s.key.length = n
  m : s.row.length = m
  v : s.ver = v
  e : s.node = e
  key : Bytes W W.heap.size A s.key
  row : Bytes W W.heap.size B s.row
theorem Ltr.keep {W W' : World} {s : Sh} {A B : Option Addr} {n m : Nat} {v e : Int} (h : Ltr W s A n v e B m) (hb : Below W.heap.size W W') : Ltr W' s A n v e B m := ⟨h.n, h.m, h.v, h.e, (h.key.below hb).up hb.size, (h.row.below hb).up hb.size⟩
theorem Sm.ltr {x : Sm} {W : World} (h : x.good W) : ∃ (A B : Option Addr) (n c m d : Nat) (v e : Int), x.cells = #[.slice A n c, .int .i64 v, .int .i64 e, .slice B m d] ∧ Ltr W x.s A n v e B m :=
  ⟨x.A, x.B, x.s.key.length, x.c, x.s.row.length, x.d, x.s.ver, x.s.node, rfl, rfl, rfl, rfl, rfl, h.key, h.row⟩
theorem compareC {W : World} {a b : Sh} {A B C D : Option Addr} {n m n' m' : Nat} {v e v' e' : Int} (ha : Ltr W a A n v e B m) (hb : Ltr W b C n' v' e' D m') (hn : n ≤ 256 ^ 3) (hn' : n' ≤ 256 ^ 3) (c d c' d' : Nat) (z : Int) (hz : a.cmp b = z) :
    Calls Try.prog 17 #[.agg #[.slice A n c, .int .i64 v, .int .i64 e, .slice B m d], .agg #[.slice C n' c', .int .i64 v', .int .i64 e', .slice D m' d']] W (IntOk z W) := by
  have := compare_any W a b A B C D n c m d n' c' m' d' ha.n hb.n hn hn' ha.key hb.key
  rwa [hz, ha.v, ha.e, hb.v, hb.e] at this
theorem rcompareC {W : World} {a b : Sh} {A B C D : Option Addr} {n m n' m' : Nat} {v e v' e' : Int} (ha : Ltr W a A n v e B m) (hb : Ltr W b C n' v' e' D m') (c d c' d' : Nat) (z : Int) (hz : a.cmp b = z) :
    Calls Try.prog 18 #[.agg #[.slice A n c, .int .i64 v, .int .i64 e, .slice B m d], .agg #[.slice C n' c', .int .i64 v', .int .i64 e', .slice D m' d']] W (IntOk z W) := by
  have := rcompare_any W a b A B C D n c m d n' c' m' d' ha.n hb.n ha.key hb.key
  rwa [hz, ha.v, ha.e, hb.v, hb.e] at this
theorem sameC {W : World} {a b : Sh} {A B C D : Option Addr} {n m n' m' : Nat} {v e v' e' : Int} (ha : Ltr W a A n v e B m) (hb : Ltr W b C n' v' e' D m') (hn : n ≤ 256 ^ 3) (hn' : n' ≤ 256 ^ 3) (c d c' d' : Nat) (z : Bool) (hz : a.same b = z) :
    Calls Try.prog 19 #[.agg #[.slice A n c, .int .i64 v, .int .i64 e, .slice B m d], .agg #[.slice C n' c', .int .i64 v', .int .i64 e', .slice D m' d']] W (BoolOk z W) := by
  have := same_any W a b A B C D n c m d n' c' m' d' ha.n ha.m hb.n hb.m hn hn' ha.key ha.row hb.key hb.row
  rwa [hz, ha.v, ha.e, hb.v, hb.e] at this
theorem rsameC {W : World} {a b : Sh} {A B C D : Option Addr} {n m n' m' : Nat} {v e v' e' : Int} (ha : Ltr W a A n v e B m) (hb : Ltr W b C n' v' e' D m') (c d c' d' : Nat) (z : Bool) (hz : a.same b = z) :
    Calls Try.prog 16 #[.agg #[.slice A n c, .int .i64 v, .int .i64 e, .slice B m d], .agg #[.slice C n' c', .int .i64 v', .int .i64 e', .slice D m' d']] W (BoolOk z W) := by
  have := rsame_any W a b A B C D n c m d n' c' m' d' ha.n ha.m hb.n hb.m ha.key ha.row hb.key hb.row
  rwa [hz, ha.v, ha.e, hb.v, hb.e] at this
def fewN (n m : Nat) : Bool := decide (n ≤ 100 ∧ m ≤ 400)
theorem fewN_iff {n m : Nat} : fewN n m = true ↔ n ≤ 100 ∧ m ≤ 400 := decide_eq_true_iff
--END HEAD
/-- The three shares in their variables. -/
structure Ord (w W : World) (bx : Nat) (sa : Sh) (Aa Ba : Option Addr) (na ca ma da : Nat) (va ea : Int) (sb : Sh) (Ab Bb : Option Addr) (nb cb mb db : Nat) (vb eb : Int) (sc : Sh) (Ac Bc : Option Addr) (nc cc mc dc : Nat) (vc ec : Int) : Prop where
  below : Below w.heap.size w W
  ka : Blk W bx 24 #[.slice Aa na ca, .int .i64 va, .int .i64 ea, .slice Ba ma da]
  kb : Blk W (bx + 1) 24 #[.slice Ab nb cb, .int .i64 vb, .int .i64 eb, .slice Bb mb db]
  kc : Blk W (bx + 1 + 1) 24 #[.slice Ac nc cc, .int .i64 vc, .int .i64 ec, .slice Bc mc dc]
  la : Ltr W sa Aa na va ea Ba ma
  lb : Ltr W sb Ab nb vb eb Bb mb
  lc : Ltr W sc Ac nc vc ec Bc mc
theorem Ord.keep {w W W' : World} {bx : Nat} {sa : Sh} {Aa Ba : Option Addr} {na ca ma da : Nat} {va ea : Int} {sb : Sh} {Ab Bb : Option Addr} {nb cb mb db : Nat} {vb eb : Int} {sc : Sh} {Ac Bc : Option Addr} {nc cc mc dc : Nat} {vc ec : Int} (h : Ord w W bx sa Aa Ba na ca ma da va ea sb Ab Bb nb cb mb db vb eb sc Ac Bc nc cc mc dc vc ec) (hb : Below W.heap.size W W') : Ord w W' bx sa Aa Ba na ca ma da va ea sb Ab Bb nb cb mb db vb eb sc Ac Bc nc cc mc dc vc ec := ⟨next h.below hb, h.ka.keep hb, h.kb.keep hb, h.kc.keep hb, h.la.keep hb, h.lb.keep hb, h.lc.keep hb⟩
set_option maxRecDepth 100000 in
set_option maxHeartbeats 8000000 in
theorem order_noa (w : World) (sa : Sh) (Aa Ba : Option Addr) (na ca ma da : Nat) (va ea : Int) (sb : Sh) (Ab Bb : Option Addr) (nb cb mb db : Nat) (vb eb : Int) (sc : Sh) (Ac Bc : Option Addr) (nc cc mc dc : Nat) (vc ec : Int) (la : Ltr w sa Aa na va ea Ba ma) (lb : Ltr w sb Ab nb vb eb Bb mb) (lc : Ltr w sc Ac nc vc ec Bc mc) (fa : fewN na ma = false) : Calls Try.prog 4 #[.agg #[.slice Aa na ca, .int .i64 va, .int .i64 ea, .slice Ba ma da], .agg #[.slice Ab nb cb, .int .i64 vb, .int .i64 eb, .slice Bb mb db], .agg #[.slice Ac nc cc, .int .i64 vc, .int .i64 ec, .slice Bc mc dc]] w fun e w' => e = .returned (.bool true) ∧ Below w.heap.size w w' := by
  obtain ⟨w1, hw1⟩ : ∃ x : World, ((w.alloc (.cells #[.slice Aa na ca, .int .i64 va, .int .i64 ea, .slice Ba ma da] 24)).alloc (.cells #[.slice Ab nb cb, .int .i64 vb, .int .i64 eb, .slice Bb mb db] 24)).alloc (.cells #[.slice Ac nc cc, .int .i64 vc, .int .i64 ec, .slice Bc mc dc] 24) = x := ⟨_, rfl⟩
  obtain ⟨bx, hbx⟩ : ∃ bx, w.heap.size = bx := ⟨_, rfl⟩
  have H1 := Lib.hid (show Ord w w1 bx sa Aa Ba na ca ma da va ea sb Ab Bb nb cb mb db vb eb sc Ac Bc nc cc mc dc vc ec from by
    have hb1 : Below w.heap.size w w1 := by rw [← hw1]; exact nextA (nextA (nextA (Mem.start w) _) _) _
    refine ⟨hb1, ?_, ?_, ?_, la.keep hb1, lb.keep hb1, lc.keep hb1⟩
    · rw [← hw1, ← hbx]; exact ((Blk.new w _ _).alloc _).alloc _
    · rw [← hw1, ← hbx, show w.heap.size + 1 = (w.alloc (.cells #[.slice Aa na ca, .int .i64 va, .int .i64 ea, .slice Ba ma da] 24)).heap.size from by rw [World.size_alloc]]; exact (Blk.new _ _ _).alloc _
    · rw [← hw1, ← hbx, show w.heap.size + 1 + 1 = ((w.alloc (.cells #[.slice Aa na ca, .int .i64 va, .int .i64 ea, .slice Ba ma da] 24)).alloc (.cells #[.slice Ab nb cb, .int .i64 vb, .int .i64 eb, .slice Bb mb db] 24)).heap.size from by rw [World.size_alloc, World.size_alloc]]; exact Blk.new _ _ _)
  have HW1 := Lib.hid hw1
  clear hw1 la lb lc
  go_enter Try.func4, Try.ntmps4
  go_wp2_with fail
  rw [HW1.out]
  refine (few_any _ va ea Aa Ba na ca ma da).mono ?_
  rintro e w2 ⟨rfl, hb⟩
  rw [(show decide (na ≤ 100 ∧ ma ≤ 400) = false from fa)]
  have H2 := Lib.hid (H1.out.keep hb)
  clear hb
  go_wp2_with fail
  refine (works_any _).mono ?_
  rintro e w9 ⟨rfl, hb⟩
  have H9 := Lib.hid (H2.out.keep hb)
  clear hb
  go_wp2_with fail
  go_ret
  exact ⟨rfl, H9.out.below⟩
set_option maxRecDepth 100000 in
set_option maxHeartbeats 8000000 in
theorem order_nob (w : World) (sa : Sh) (Aa Ba : Option Addr) (na ca ma da : Nat) (va ea : Int) (sb : Sh) (Ab Bb : Option Addr) (nb cb mb db : Nat) (vb eb : Int) (sc : Sh) (Ac Bc : Option Addr) (nc cc mc dc : Nat) (vc ec : Int) (la : Ltr w sa Aa na va ea Ba ma) (lb : Ltr w sb Ab nb vb eb Bb mb) (lc : Ltr w sc Ac nc vc ec Bc mc) (fa : fewN na ma = true) (fb : fewN nb mb = false) : Calls Try.prog 4 #[.agg #[.slice Aa na ca, .int .i64 va, .int .i64 ea, .slice Ba ma da], .agg #[.slice Ab nb cb, .int .i64 vb, .int .i64 eb, .slice Bb mb db], .agg #[.slice Ac nc cc, .int .i64 vc, .int .i64 ec, .slice Bc mc dc]] w fun e w' => e = .returned (.bool true) ∧ Below w.heap.size w w' := by
  obtain ⟨w1, hw1⟩ : ∃ x : World, ((w.alloc (.cells #[.slice Aa na ca, .int .i64 va, .int .i64 ea, .slice Ba ma da] 24)).alloc (.cells #[.slice Ab nb cb, .int .i64 vb, .int .i64 eb, .slice Bb mb db] 24)).alloc (.cells #[.slice Ac nc cc, .int .i64 vc, .int .i64 ec, .slice Bc mc dc] 24) = x := ⟨_, rfl⟩
  obtain ⟨bx, hbx⟩ : ∃ bx, w.heap.size = bx := ⟨_, rfl⟩
  have H1 := Lib.hid (show Ord w w1 bx sa Aa Ba na ca ma da va ea sb Ab Bb nb cb mb db vb eb sc Ac Bc nc cc mc dc vc ec from by
    have hb1 : Below w.heap.size w w1 := by rw [← hw1]; exact nextA (nextA (nextA (Mem.start w) _) _) _
    refine ⟨hb1, ?_, ?_, ?_, la.keep hb1, lb.keep hb1, lc.keep hb1⟩
    · rw [← hw1, ← hbx]; exact ((Blk.new w _ _).alloc _).alloc _
    · rw [← hw1, ← hbx, show w.heap.size + 1 = (w.alloc (.cells #[.slice Aa na ca, .int .i64 va, .int .i64 ea, .slice Ba ma da] 24)).heap.size from by rw [World.size_alloc]]; exact (Blk.new _ _ _).alloc _
    · rw [← hw1, ← hbx, show w.heap.size + 1 + 1 = ((w.alloc (.cells #[.slice Aa na ca, .int .i64 va, .int .i64 ea, .slice Ba ma da] 24)).alloc (.cells #[.slice Ab nb cb, .int .i64 vb, .int .i64 eb, .slice Bb mb db] 24)).heap.size from by rw [World.size_alloc, World.size_alloc]]; exact Blk.new _ _ _)
  have HW1 := Lib.hid hw1
  clear hw1 la lb lc
  go_enter Try.func4, Try.ntmps4
  go_wp2_with fail
  rw [HW1.out]
  refine (few_any _ va ea Aa Ba na ca ma da).mono ?_
  rintro e w2 ⟨rfl, hb⟩
  rw [(show decide (na ≤ 100 ∧ ma ≤ 400) = true from fa)]
  have H2 := Lib.hid (H1.out.keep hb)
  clear hb
  obtain ⟨pb, qb, rb, tb⟩ := cells4 (H2.out.kb)
  go_wp2_with fail
  refine (few_any _ vb eb Ab Bb nb cb mb db).mono ?_
  rintro e w3 ⟨rfl, hb⟩
  rw [(show decide (nb ≤ 100 ∧ mb ≤ 400) = false from fb)]
  have H3 := Lib.hid (H2.out.keep hb)
  clear hb pb qb rb tb
  go_wp2_with fail
  refine (works_any _).mono ?_
  rintro e w9 ⟨rfl, hb⟩
  have H9 := Lib.hid (H3.out.keep hb)
  clear hb
  go_wp2_with fail
  go_ret
  exact ⟨rfl, H9.out.below⟩
set_option maxRecDepth 100000 in
set_option maxHeartbeats 8000000 in
theorem order_noc (w : World) (sa : Sh) (Aa Ba : Option Addr) (na ca ma da : Nat) (va ea : Int) (sb : Sh) (Ab Bb : Option Addr) (nb cb mb db : Nat) (vb eb : Int) (sc : Sh) (Ac Bc : Option Addr) (nc cc mc dc : Nat) (vc ec : Int) (la : Ltr w sa Aa na va ea Ba ma) (lb : Ltr w sb Ab nb vb eb Bb mb) (lc : Ltr w sc Ac nc vc ec Bc mc) (fa : fewN na ma = true) (fb : fewN nb mb = true) (fc : fewN nc mc = false) : Calls Try.prog 4 #[.agg #[.slice Aa na ca, .int .i64 va, .int .i64 ea, .slice Ba ma da], .agg #[.slice Ab nb cb, .int .i64 vb, .int .i64 eb, .slice Bb mb db], .agg #[.slice Ac nc cc, .int .i64 vc, .int .i64 ec, .slice Bc mc dc]] w fun e w' => e = .returned (.bool true) ∧ Below w.heap.size w w' := by
  obtain ⟨w1, hw1⟩ : ∃ x : World, ((w.alloc (.cells #[.slice Aa na ca, .int .i64 va, .int .i64 ea, .slice Ba ma da] 24)).alloc (.cells #[.slice Ab nb cb, .int .i64 vb, .int .i64 eb, .slice Bb mb db] 24)).alloc (.cells #[.slice Ac nc cc, .int .i64 vc, .int .i64 ec, .slice Bc mc dc] 24) = x := ⟨_, rfl⟩
  obtain ⟨bx, hbx⟩ : ∃ bx, w.heap.size = bx := ⟨_, rfl⟩
  have H1 := Lib.hid (show Ord w w1 bx sa Aa Ba na ca ma da va ea sb Ab Bb nb cb mb db vb eb sc Ac Bc nc cc mc dc vc ec from by
    have hb1 : Below w.heap.size w w1 := by rw [← hw1]; exact nextA (nextA (nextA (Mem.start w) _) _) _
    refine ⟨hb1, ?_, ?_, ?_, la.keep hb1, lb.keep hb1, lc.keep hb1⟩
    · rw [← hw1, ← hbx]; exact ((Blk.new w _ _).alloc _).alloc _
    · rw [← hw1, ← hbx, show w.heap.size + 1 = (w.alloc (.cells #[.slice Aa na ca, .int .i64 va, .int .i64 ea, .slice Ba ma da] 24)).heap.size from by rw [World.size_alloc]]; exact (Blk.new _ _ _).alloc _
    · rw [← hw1, ← hbx, show w.heap.size + 1 + 1 = ((w.alloc (.cells #[.slice Aa na ca, .int .i64 va, .int .i64 ea, .slice Ba ma da] 24)).alloc (.cells #[.slice Ab nb cb, .int .i64 vb, .int .i64 eb, .slice Bb mb db] 24)).heap.size from by rw [World.size_alloc, World.size_alloc]]; exact Blk.new _ _ _)
  have HW1 := Lib.hid hw1
  clear hw1 la lb lc
  go_enter Try.func4, Try.ntmps4
  go_wp2_with fail
  rw [HW1.out]
  refine (few_any _ va ea Aa Ba na ca ma da).mono ?_
  rintro e w2 ⟨rfl, hb⟩
  rw [(show decide (na ≤ 100 ∧ ma ≤ 400) = true from fa)]
  have H2 := Lib.hid (H1.out.keep hb)
  clear hb
  obtain ⟨pb, qb, rb, tb⟩ := cells4 (H2.out.kb)
  go_wp2_with fail
  refine (few_any _ vb eb Ab Bb nb cb mb db).mono ?_
  rintro e w3 ⟨rfl, hb⟩
  rw [(show decide (nb ≤ 100 ∧ mb ≤ 400) = true from fb)]
  have H3 := Lib.hid (H2.out.keep hb)
  clear hb pb qb rb tb
  obtain ⟨pc, qc, rc, tc⟩ := cells4 (H3.out.kc)
  go_wp2_with fail
  refine (few_any _ vc ec Ac Bc nc cc mc dc).mono ?_
  rintro e w4 ⟨rfl, hb⟩
  rw [(show decide (nc ≤ 100 ∧ mc ≤ 400) = false from fc)]
  have H4 := Lib.hid (H3.out.keep hb)
  clear hb pc qc rc tc
  go_wp2_with fail
  refine (works_any _).mono ?_
  rintro e w9 ⟨rfl, hb⟩
  have H9 := Lib.hid (H4.out.keep hb)
  clear hb
  go_wp2_with fail
  go_ret
  exact ⟨rfl, H9.out.below⟩
set_option maxRecDepth 100000 in
set_option maxHeartbeats 16000000 in
theorem order_yes (w : World) (sa : Sh) (Aa Ba : Option Addr) (na ca ma da : Nat) (va ea : Int) (sb : Sh) (Ab Bb : Option Addr) (nb cb mb db : Nat) (vb eb : Int) (sc : Sh) (Ac Bc : Option Addr) (nc cc mc dc : Nat) (vc ec : Int) (la : Ltr w sa Aa na va ea Ba ma) (lb : Ltr w sb Ab nb vb eb Bb mb) (lc : Ltr w sc Ac nc vc ec Bc mc) (fa : fewN na ma = true) (fb : fewN nb mb = true) (fc : fewN nc mc = true) (z zr y x : Int) (g : Bool) (hz : sa.cmp sb = z) (hr : sb.cmp sa = zr) (hy : sb.cmp sc = y) (hx : sa.cmp sc = x) (hg : sa.same sb = g) (hneg : IntKind.i64.wrap (-zr) = z) (h3 : z = 1 ∨ (decide (0 < z) = false ∧ (decide (0 < y) = true ∨ (decide (0 < y) = false ∧ decide (x ≤ 0) = true)))) : Calls Try.prog 4 #[.agg #[.slice Aa na ca, .int .i64 va, .int .i64 ea, .slice Ba ma da], .agg #[.slice Ab nb cb, .int .i64 vb, .int .i64 eb, .slice Bb mb db], .agg #[.slice Ac nc cc, .int .i64 vc, .int .i64 ec, .slice Bc mc dc]] w fun e w' => e = .returned (.bool true) ∧ Below w.heap.size w w' := by
  have ga := fewN_iff.1 fa
  have ia : na ≤ 256 ^ 3 := by omega
  have gb := fewN_iff.1 fb
  have ib : nb ≤ 256 ^ 3 := by omega
  have gc := fewN_iff.1 fc
  have ic : nc ≤ 256 ^ 3 := by omega
  have HI := Lib.hid (And.intro ia (And.intro ib ic))
  have HZ := Lib.hid (And.intro hz (And.intro hr (And.intro hy (And.intro hx hg))))
  clear hz hr hy hx hg ga gb gc ia ib ic
  obtain ⟨w1, hw1⟩ : ∃ x : World, ((w.alloc (.cells #[.slice Aa na ca, .int .i64 va, .int .i64 ea, .slice Ba ma da] 24)).alloc (.cells #[.slice Ab nb cb, .int .i64 vb, .int .i64 eb, .slice Bb mb db] 24)).alloc (.cells #[.slice Ac nc cc, .int .i64 vc, .int .i64 ec, .slice Bc mc dc] 24) = x := ⟨_, rfl⟩
  obtain ⟨bx, hbx⟩ : ∃ bx, w.heap.size = bx := ⟨_, rfl⟩
  have H1 := Lib.hid (show Ord w w1 bx sa Aa Ba na ca ma da va ea sb Ab Bb nb cb mb db vb eb sc Ac Bc nc cc mc dc vc ec from by
    have hb1 : Below w.heap.size w w1 := by rw [← hw1]; exact nextA (nextA (nextA (Mem.start w) _) _) _
    refine ⟨hb1, ?_, ?_, ?_, la.keep hb1, lb.keep hb1, lc.keep hb1⟩
    · rw [← hw1, ← hbx]; exact ((Blk.new w _ _).alloc _).alloc _
    · rw [← hw1, ← hbx, show w.heap.size + 1 = (w.alloc (.cells #[.slice Aa na ca, .int .i64 va, .int .i64 ea, .slice Ba ma da] 24)).heap.size from by rw [World.size_alloc]]; exact (Blk.new _ _ _).alloc _
    · rw [← hw1, ← hbx, show w.heap.size + 1 + 1 = ((w.alloc (.cells #[.slice Aa na ca, .int .i64 va, .int .i64 ea, .slice Ba ma da] 24)).alloc (.cells #[.slice Ab nb cb, .int .i64 vb, .int .i64 eb, .slice Bb mb db] 24)).heap.size from by rw [World.size_alloc, World.size_alloc]]; exact Blk.new _ _ _)
  have HW1 := Lib.hid hw1
  clear hw1 la lb lc
  go_enter Try.func4, Try.ntmps4
  go_wp2_with fail
  rw [HW1.out]
  refine (few_any _ va ea Aa Ba na ca ma da).mono ?_
  rintro e w2 ⟨rfl, hb⟩
  rw [(show decide (na ≤ 100 ∧ ma ≤ 400) = true from fa)]
  have H2 := Lib.hid (H1.out.keep hb)
  clear hb
  obtain ⟨pb, qb, rb, tb⟩ := cells4 (H2.out.kb)
  go_wp2_with fail
  refine (few_any _ vb eb Ab Bb nb cb mb db).mono ?_
  rintro e w3 ⟨rfl, hb⟩
  rw [(show decide (nb ≤ 100 ∧ mb ≤ 400) = true from fb)]
  have H3 := Lib.hid (H2.out.keep hb)
  clear hb pb qb rb tb
  obtain ⟨pc, qc, rc, tc⟩ := cells4 (H3.out.kc)
  go_wp2_with fail
  refine (few_any _ vc ec Ac Bc nc cc mc dc).mono ?_
  rintro e w4 ⟨rfl, hb⟩
  rw [(show decide (nc ≤ 100 ∧ mc ≤ 400) = true from fc)]
  have H4 := Lib.hid (H3.out.keep hb)
  clear hb pc qc rc tc
  obtain ⟨pa, qa, ra, ta⟩ := cells4 (H4.out.ka)
  obtain ⟨pb, qb, rb, tb⟩ := cells4 (H4.out.kb)
  go_wp2_with fail
  refine (compareC H4.out.la H4.out.lb HI.out.1 HI.out.2.1 ca da cb db z HZ.out.1).mono ?_
  rintro e w5 ⟨rfl, hb⟩
  have H5 := Lib.hid (H4.out.keep hb)
  clear hb pa qa ra ta pb qb rb tb
  have KC := Lib.hid (show ∀ W, Below w5.heap.size w5 W → (W.cell? ⟨bx, 0, none⟩ = some (.slice Aa na ca) ∧ W.cell? ⟨bx, 1, none⟩ = some (.int .i64 va) ∧ W.cell? ⟨bx, 2, none⟩ = some (.int .i64 ea) ∧ W.cell? ⟨bx, 3, none⟩ = some (.slice Ba ma da)) ∧ (W.cell? ⟨bx + 1, 0, none⟩ = some (.slice Ab nb cb) ∧ W.cell? ⟨bx + 1, 1, none⟩ = some (.int .i64 vb) ∧ W.cell? ⟨bx + 1, 2, none⟩ = some (.int .i64 eb) ∧ W.cell? ⟨bx + 1, 3, none⟩ = some (.slice Bb mb db)) ∧ (W.cell? ⟨bx + 1 + 1, 0, none⟩ = some (.slice Ac nc cc) ∧ W.cell? ⟨bx + 1 + 1, 1, none⟩ = some (.int .i64 vc) ∧ W.cell? ⟨bx + 1 + 1, 2, none⟩ = some (.int .i64 ec) ∧ W.cell? ⟨bx + 1 + 1, 3, none⟩ = some (.slice Bc mc dc)) from fun W hW => ⟨cells4 (H5.out.keep hW).ka, cells4 (H5.out.keep hW).kb, cells4 (H5.out.keep hW).kc⟩)
  have KPa := Lib.hid (show ∀ W, Below w5.heap.size w5 W → Calls Try.prog 12 #[.agg #[.slice Aa na ca, .int .i64 va, .int .i64 ea, .slice Ba ma da]] W fun e w' => e = .returned (.agg #[.slice Aa na ca, .int .i64 va, .int .i64 ea, .slice Ba ma da]) ∧ Below w5.heap.size w5 w' from fun W hW => (plain_any W va ea Aa Ba na ca ma da).mono (by rintro e w' ⟨rfl, hb⟩; exact ⟨rfl, next hW hb⟩))
  have KPb := Lib.hid (show ∀ W, Below w5.heap.size w5 W → Calls Try.prog 12 #[.agg #[.slice Ab nb cb, .int .i64 vb, .int .i64 eb, .slice Bb mb db]] W fun e w' => e = .returned (.agg #[.slice Ab nb cb, .int .i64 vb, .int .i64 eb, .slice Bb mb db]) ∧ Below w5.heap.size w5 w' from fun W hW => (plain_any W vb eb Ab Bb nb cb mb db).mono (by rintro e w' ⟨rfl, hb⟩; exact ⟨rfl, next hW hb⟩))
  have KR := Lib.hid (show ∀ W, Below w5.heap.size w5 W → Calls Try.prog 18 #[.agg #[.slice Aa na ca, .int .i64 va, .int .i64 ea, .slice Ba ma da], .agg #[.slice Ab nb cb, .int .i64 vb, .int .i64 eb, .slice Bb mb db]] W fun e w' => e = .returned (.int .i64 z) ∧ Below w5.heap.size w5 w' from fun W hW => (rcompareC (H5.out.keep hW).la (H5.out.keep hW).lb ca da cb db z HZ.out.1).mono (by rintro e w' ⟨rfl, hb⟩; exact ⟨rfl, next hW hb⟩))
  have KB := Lib.hid (show ∀ W, Below w5.heap.size w5 W → Calls Try.prog 17 #[.agg #[.slice Ab nb cb, .int .i64 vb, .int .i64 eb, .slice Bb mb db], .agg #[.slice Aa na ca, .int .i64 va, .int .i64 ea, .slice Ba ma da]] W fun e w' => e = .returned (.int .i64 zr) ∧ Below w5.heap.size w5 w' from fun W hW => (compareC (H5.out.keep hW).lb (H5.out.keep hW).la HI.out.2.1 HI.out.1 cb db ca da zr HZ.out.2.1).mono (by rintro e w' ⟨rfl, hb⟩; exact ⟨rfl, next hW hb⟩))
  have KS := Lib.hid (show ∀ W, Below w5.heap.size w5 W → Calls Try.prog 19 #[.agg #[.slice Aa na ca, .int .i64 va, .int .i64 ea, .slice Ba ma da], .agg #[.slice Ab nb cb, .int .i64 vb, .int .i64 eb, .slice Bb mb db]] W fun e w' => e = .returned (.bool g) ∧ Below w5.heap.size w5 w' from fun W hW => (sameC (H5.out.keep hW).la (H5.out.keep hW).lb HI.out.1 HI.out.2.1 ca da cb db g HZ.out.2.2.2.2).mono (by rintro e w' ⟨rfl, hb⟩; exact ⟨rfl, next hW hb⟩))
  have KT := Lib.hid (show ∀ W, Below w5.heap.size w5 W → Calls Try.prog 16 #[.agg #[.slice Aa na ca, .int .i64 va, .int .i64 ea, .slice Ba ma da], .agg #[.slice Ab nb cb, .int .i64 vb, .int .i64 eb, .slice Bb mb db]] W fun e w' => e = .returned (.bool g) ∧ Below w5.heap.size w5 w' from fun W hW => (rsameC (H5.out.keep hW).la (H5.out.keep hW).lb ca da cb db g HZ.out.2.2.2.2).mono (by rintro e w' ⟨rfl, hb⟩; exact ⟨rfl, next hW hb⟩))
  have KU := Lib.hid (show ∀ W, Below w5.heap.size w5 W → Calls Try.prog 19 #[.agg #[.slice Aa na ca, .int .i64 va, .int .i64 ea, .slice Ba ma da], .agg #[.slice Aa na ca, .int .i64 va, .int .i64 ea, .slice Ba ma da]] W fun e w' => e = .returned (.bool true) ∧ Below w5.heap.size w5 w' from fun W hW => (sameC (H5.out.keep hW).la (H5.out.keep hW).la HI.out.1 HI.out.1 ca da ca da true (same_self _)).mono (by rintro e w' ⟨rfl, hb⟩; exact ⟨rfl, next hW hb⟩))
  have KV := Lib.hid (show ∀ W, Below w5.heap.size w5 W → Calls Try.prog 17 #[.agg #[.slice Ab nb cb, .int .i64 vb, .int .i64 eb, .slice Bb mb db], .agg #[.slice Ac nc cc, .int .i64 vc, .int .i64 ec, .slice Bc mc dc]] W fun e w' => e = .returned (.int .i64 y) ∧ Below w5.heap.size w5 w' from fun W hW => (compareC (H5.out.keep hW).lb (H5.out.keep hW).lc HI.out.2.1 HI.out.2.2 cb db cc dc y HZ.out.2.2.1).mono (by rintro e w' ⟨rfl, hb⟩; exact ⟨rfl, next hW hb⟩))
  have KW := Lib.hid (show ∀ W, Below w5.heap.size w5 W → Calls Try.prog 17 #[.agg #[.slice Aa na ca, .int .i64 va, .int .i64 ea, .slice Ba ma da], .agg #[.slice Ac nc cc, .int .i64 vc, .int .i64 ec, .slice Bc mc dc]] W fun e w' => e = .returned (.int .i64 x) ∧ Below w5.heap.size w5 w' from fun W hW => (compareC (H5.out.keep hW).la (H5.out.keep hW).lc HI.out.1 HI.out.2.2 ca da cc dc x HZ.out.2.2.2.1).mono (by rintro e w' ⟨rfl, hb⟩; exact ⟨rfl, next hW hb⟩))
  have KZ := Lib.hid (show ∀ W, Below w5.heap.size w5 W → Calls Try.prog 9 #[] W fun e w' => e = .returned (.bool true) ∧ Below w5.heap.size w5 w' from fun W hW => (works_any W).mono (by rintro e w' ⟨rfl, hb⟩; exact ⟨rfl, next hW hb⟩))
  have hz0 : (z == z) = true := by simp
  have hg0 : (g == g) = true := by simp
  have H6 : Below w5.heap.size w5 w5.drew := nextN (Mem.start w5) 1
  clear H1 H2 H3 H4 HW1 fa fb fc
  rcases h3 with rfl | ⟨h3, h4 | ⟨h4, h5⟩⟩
  · go_wp2_with fail
    refine wp_region_noPanic ?_
    refine wp_heldG (fun W => Below w5.heap.size w5 W ∧ (W.cell? ⟨bx, 0, none⟩ = some (.slice Aa na ca) ∧ W.cell? ⟨bx, 1, none⟩ = some (.int .i64 va) ∧ W.cell? ⟨bx, 2, none⟩ = some (.int .i64 ea) ∧ W.cell? ⟨bx, 3, none⟩ = some (.slice Ba ma da)) ∧ (W.cell? ⟨bx + 1, 0, none⟩ = some (.slice Ab nb cb) ∧ W.cell? ⟨bx + 1, 1, none⟩ = some (.int .i64 vb) ∧ W.cell? ⟨bx + 1, 2, none⟩ = some (.int .i64 eb) ∧ W.cell? ⟨bx + 1, 3, none⟩ = some (.slice Bb mb db)) ∧ (W.cell? ⟨bx + 1 + 1, 0, none⟩ = some (.slice Ac nc cc) ∧ W.cell? ⟨bx + 1 + 1, 1, none⟩ = some (.int .i64 vc) ∧ W.cell? ⟨bx + 1 + 1, 2, none⟩ = some (.int .i64 ec) ∧ W.cell? ⟨bx + 1 + 1, 3, none⟩ = some (.slice Bc mc dc))) [] (by kernel_rfl) ?hs0 ?rg0
    case hs0 =>
      exact ⟨H6, KC.out _ H6⟩
    case rg0 =>
    intro hHeld
    refine wpAnyG_pure (i := 0) (oi := { dst := some 25, op := Op.move (Operand.tmp 7), type := 3, pos := _, after := #[], guard := none }) (v := ?_) rfl (by kernel_rfl) (by kernel_rfl) (by kernel_rfl) (by kernel_rfl) (fun _ _ _ h => h) (Or.inl ⟨by rfl, ?_⟩) (fun _ => by assumption) ?_
    rotate_left
    · intro w hSw
      try dsimp only at hSw
      go_simp
      try with_reducible rfl
    try simp only [Act.put, List.setIfInBounds_toArray, List.set_cons_zero, List.set_cons_succ]
    refine wpAnyG_take (i := 1) (oi := { dst := some 26, op := Op.load 24 (Operand.tmp 3), type := 24, pos := _, after := #[], guard := none }) (v := ?_) rfl (by kernel_rfl) (by kernel_rfl) (by kernel_rfl) (by kernel_rfl) (fun _ _ _ h => h) (Or.inl ⟨by rfl, ?_⟩) (by assumption) ?_
    rotate_left
    · intro w hSw
      try dsimp only at hSw
      go_simp
      try with_reducible rfl
    try simp only [Act.put, List.setIfInBounds_toArray, List.set_cons_zero, List.set_cons_succ]
    refine wpAnyG_take (i := 3) (oi := { dst := some 28, op := Op.load 24 (Operand.tmp 4), type := 24, pos := _, after := #[], guard := none }) (v := ?_) rfl (by kernel_rfl) (by kernel_rfl) (by kernel_rfl) (by kernel_rfl) (fun _ _ _ h => h) (Or.inl ⟨by rfl, ?_⟩) (by assumption) ?_
    rotate_left
    · intro w hSw
      try dsimp only at hSw
      go_simp
      try with_reducible rfl
    try simp only [Act.put, List.setIfInBounds_toArray, List.set_cons_zero, List.set_cons_succ]
    refine wpAnyG_one (i := 2) (o := { dst := some 27, op := Op.call { callee := Callee.value (Operand.func 12), args := #[Operand.tmp 26], argTypes := #[24] }, type := 31, pos := _, after := #[{ on := 1, ground := Ground.data }], guard := none }) (by kernel_rfl) rfl (fun K hK => ?_)
    go_simp
    refine (KPa.out _ hHeld.1).mono ?_
    rintro e w9 ⟨rfl, h⟩
    try dsimp only
    refine hK.out _ _ ?_ (fun hHeld => ?_)
    · intro _
      try dsimp only
      exact ⟨h, KC.out _ h⟩
    clear hK K
    try simp only [Act.put, List.setIfInBounds_toArray, List.set_cons_zero, List.set_cons_succ]
    have hHeld := hHeld (by kernel_rfl)
    refine wpAnyG_one (i := 4) (o := { dst := some 29, op := Op.call { callee := Callee.value (Operand.func 12), args := #[Operand.tmp 28], argTypes := #[24] }, type := 31, pos := _, after := #[{ on := 3, ground := Ground.data }, { on := 2, ground := Ground.chain }], guard := none }) (by kernel_rfl) rfl (fun K hK => ?_)
    go_simp
    refine (KPb.out _ hHeld.1).mono ?_
    rintro e w9 ⟨rfl, h⟩
    try dsimp only
    refine hK.out _ _ ?_ (fun hHeld => ?_)
    · intro _
      try dsimp only
      exact ⟨h, KC.out _ h⟩
    clear hK K
    try simp only [Act.put, List.setIfInBounds_toArray, List.set_cons_zero, List.set_cons_succ]
    have hHeld := hHeld (by kernel_rfl)
    refine wpAnyG_one (i := 5) (o := { dst := some 30, op := Op.call { callee := Callee.value (Operand.func 18), args := #[Operand.tmp 27, Operand.tmp 29], argTypes := #[31, 31] }, type := 3, pos := _, after := #[{ on := 2, ground := Ground.data }, { on := 4, ground := Ground.data }, { on := 4, ground := Ground.chain }], guard := none }) (by kernel_rfl) rfl (fun K hK => ?_)
    go_simp
    refine (KR.out _ hHeld.1).mono ?_
    rintro e w9 ⟨rfl, h⟩
    try dsimp only
    refine hK.out _ _ ?_ (fun hHeld => ?_)
    · intro _
      try dsimp only
      exact ⟨h, KC.out _ h⟩
    clear hK K
    try simp only [Act.put, List.setIfInBounds_toArray, List.set_cons_zero, List.set_cons_succ]
    have hHeld := hHeld (by kernel_rfl)
    refine wpAnyG_pure (i := 6) (oi := { dst := some 31, op := Op.binOp BinOp.eql 3 (Operand.tmp 25) (Operand.tmp 30) 3, type := 4, pos := _, after := #[{ on := 0, ground := Ground.data }, { on := 5, ground := Ground.data }], guard := none }) (v := ?_) rfl (by kernel_rfl) (by kernel_rfl) (by kernel_rfl) (by kernel_rfl) (fun _ _ _ h => h) (Or.inl ⟨by rfl, ?_⟩) (fun _ => by assumption) ?_
    rotate_left
    · intro w hSw
      try dsimp only at hSw
      go_simp
      try with_reducible rfl
    try simp only [Act.put, List.setIfInBounds_toArray, List.set_cons_zero, List.set_cons_succ]
    refine wpAnyG_pure (i := 7) (oi := { dst := some 32, op := Op.move (Operand.tmp 31), type := 4, pos := _, after := #[{ on := 6, ground := Ground.data }, { on := 5, ground := Ground.chain }], guard := none }) (v := ?_) rfl (by kernel_rfl) (by kernel_rfl) (by kernel_rfl) (by kernel_rfl) (fun _ _ _ h => h) (Or.inl ⟨by rfl, ?_⟩) (fun _ => by assumption) ?_
    rotate_left
    · intro w hSw
      try dsimp only at hSw
      go_simp
      try with_reducible rfl
    try simp only [Act.put, List.setIfInBounds_toArray, List.set_cons_zero, List.set_cons_succ]
    refine wpAnyG_pure (i := 8) (oi := { dst := some 33, op := Op.move (Operand.tmp 7), type := 3, pos := _, after := #[{ on := 7, ground := Ground.guard }], guard := some (7, true) }) (v := ?_) rfl (by kernel_rfl) (by kernel_rfl) (by kernel_rfl) (by kernel_rfl) (fun _ _ _ h => h) (Or.inl ⟨by rfl, ?_⟩) (fun _ => by assumption) ?_
    rotate_left
    · intro w hSw
      try dsimp only at hSw
      go_simp
      try with_reducible rfl
    try simp only [Act.put, List.setIfInBounds_toArray, List.set_cons_zero, List.set_cons_succ]
    refine wpAnyG_take (i := 9) (oi := { dst := some 34, op := Op.load 24 (Operand.tmp 4), type := 24, pos := _, after := #[{ on := 7, ground := Ground.guard }], guard := some (7, true) }) (v := ?_) rfl (by kernel_rfl) (by kernel_rfl) (by kernel_rfl) (by kernel_rfl) (fun _ _ _ h => h) (Or.inl ⟨by rfl, ?_⟩) (by assumption) ?_
    rotate_left
    · intro w hSw
      try dsimp only at hSw
      go_simp
      try with_reducible rfl
    try simp only [Act.put, List.setIfInBounds_toArray, List.set_cons_zero, List.set_cons_succ]
    refine wpAnyG_take (i := 10) (oi := { dst := some 35, op := Op.load 24 (Operand.tmp 3), type := 24, pos := _, after := #[{ on := 7, ground := Ground.guard }], guard := some (7, true) }) (v := ?_) rfl (by kernel_rfl) (by kernel_rfl) (by kernel_rfl) (by kernel_rfl) (fun _ _ _ h => h) (Or.inl ⟨by rfl, ?_⟩) (by assumption) ?_
    rotate_left
    · intro w hSw
      try dsimp only at hSw
      go_simp
      try with_reducible rfl
    try simp only [Act.put, List.setIfInBounds_toArray, List.set_cons_zero, List.set_cons_succ]
    refine wpAnyG_one (i := 11) (o := { dst := some 36, op := Op.call { callee := Callee.value (Operand.func 17), args := #[Operand.tmp 34, Operand.tmp 35], argTypes := #[24, 24] }, type := 3, pos := _, after := #[{ on := 9, ground := Ground.data }, { on := 10, ground := Ground.data }, { on := 7, ground := Ground.chain }, { on := 7, ground := Ground.guard }], guard := some (7, true) }) (by kernel_rfl) rfl (fun K hK => ?_)
    go_simp
    refine (KB.out _ hHeld.1).mono ?_
    rintro e w9 ⟨rfl, h⟩
    try dsimp only
    refine hK.out _ _ ?_ (fun hHeld => ?_)
    · intro _
      try dsimp only
      exact ⟨h, KC.out _ h⟩
    clear hK K
    try simp only [Act.put, List.setIfInBounds_toArray, List.set_cons_zero, List.set_cons_succ]
    have hHeld := hHeld (by kernel_rfl)
    refine wpAnyG_pure (i := 12) (oi := { dst := some 37, op := Op.unOp UnOp.neg 3 (Operand.tmp 36), type := 3, pos := _, after := #[{ on := 11, ground := Ground.data }, { on := 7, ground := Ground.guard }], guard := some (7, true) }) (v := ?_) rfl (by kernel_rfl) (by kernel_rfl) (by kernel_rfl) (by kernel_rfl) (fun _ _ _ h => h) (Or.inl ⟨by rfl, ?_⟩) (fun _ => by assumption) ?_
    rotate_left
    · intro w hSw
      try dsimp only at hSw
      go_simp
      try with_reducible rfl
    try simp only [Act.put, List.setIfInBounds_toArray, List.set_cons_zero, List.set_cons_succ]
    refine wpAnyG_pure (i := 13) (oi := { dst := some 38, op := Op.binOp BinOp.eql 3 (Operand.tmp 33) (Operand.tmp 37) 3, type := 4, pos := _, after := #[{ on := 8, ground := Ground.data }, { on := 12, ground := Ground.data }, { on := 7, ground := Ground.guard }], guard := some (7, true) }) (v := ?_) rfl (by kernel_rfl) (by kernel_rfl) (by kernel_rfl) (by kernel_rfl) (fun _ _ _ h => h) (Or.inl ⟨by rfl, ?_⟩) (fun _ => by assumption) ?_
    rotate_left
    · intro w hSw
      try dsimp only at hSw
      go_simp
      try with_reducible rfl
    try simp only [Act.put, List.setIfInBounds_toArray, List.set_cons_zero, List.set_cons_succ]
    refine wpAnyG_pure (i := 14) (oi := { dst := some 39, op := Op.pick (Operand.tmp 32) (Operand.tmp 38) (Operand.const (Value.bool false)), type := 4, pos := _, after := #[{ on := 7, ground := Ground.data }, { on := 13, ground := Ground.data }], guard := none }) (v := ?_) rfl (by kernel_rfl) (by kernel_rfl) (by kernel_rfl) (by kernel_rfl) (fun _ _ _ h => h) (Or.inl ⟨by rfl, ?_⟩) (fun _ => by assumption) ?_
    rotate_left
    · intro w hSw
      try dsimp only at hSw
      go_simp
      try with_reducible rfl
    try simp only [Act.put, List.setIfInBounds_toArray, List.set_cons_zero, List.set_cons_succ]
    refine wpAnyG_pure (i := 15) (oi := { dst := some 40, op := Op.move (Operand.tmp 39), type := 4, pos := _, after := #[{ on := 14, ground := Ground.data }, { on := 11, ground := Ground.chain }], guard := none }) (v := ?_) rfl (by kernel_rfl) (by kernel_rfl) (by kernel_rfl) (by kernel_rfl) (fun _ _ _ h => h) (Or.inl ⟨by rfl, ?_⟩) (fun _ => by assumption) ?_
    rotate_left
    · intro w hSw
      try dsimp only at hSw
      go_simp
      try with_reducible rfl
    try simp only [Act.put, List.setIfInBounds_toArray, List.set_cons_zero, List.set_cons_succ]
    refine wpAnyG_take (i := 16) (oi := { dst := some 41, op := Op.load 24 (Operand.tmp 3), type := 24, pos := _, after := #[{ on := 15, ground := Ground.guard }], guard := some (15, true) }) (v := ?_) rfl (by kernel_rfl) (by kernel_rfl) (by kernel_rfl) (by kernel_rfl) (fun _ _ _ h => h) (Or.inl ⟨by rfl, ?_⟩) (by assumption) ?_
    rotate_left
    · intro w hSw
      try dsimp only at hSw
      go_simp
      try with_reducible rfl
    try simp only [Act.put, List.setIfInBounds_toArray, List.set_cons_zero, List.set_cons_succ]
    refine wpAnyG_take (i := 17) (oi := { dst := some 42, op := Op.load 24 (Operand.tmp 4), type := 24, pos := _, after := #[{ on := 15, ground := Ground.guard }], guard := some (15, true) }) (v := ?_) rfl (by kernel_rfl) (by kernel_rfl) (by kernel_rfl) (by kernel_rfl) (fun _ _ _ h => h) (Or.inl ⟨by rfl, ?_⟩) (by assumption) ?_
    rotate_left
    · intro w hSw
      try dsimp only at hSw
      go_simp
      try with_reducible rfl
    try simp only [Act.put, List.setIfInBounds_toArray, List.set_cons_zero, List.set_cons_succ]
    refine wpAnyG_take (i := 19) (oi := { dst := some 44, op := Op.load 24 (Operand.tmp 3), type := 24, pos := _, after := #[{ on := 15, ground := Ground.guard }], guard := some (15, true) }) (v := ?_) rfl (by kernel_rfl) (by kernel_rfl) (by kernel_rfl) (by kernel_rfl) (fun _ _ _ h => h) (Or.inl ⟨by rfl, ?_⟩) (by assumption) ?_
    rotate_left
    · intro w hSw
      try dsimp only at hSw
      go_simp
      try with_reducible rfl
    try simp only [Act.put, List.setIfInBounds_toArray, List.set_cons_zero, List.set_cons_succ]
    refine wpAnyG_take (i := 21) (oi := { dst := some 46, op := Op.load 24 (Operand.tmp 4), type := 24, pos := _, after := #[{ on := 15, ground := Ground.guard }], guard := some (15, true) }) (v := ?_) rfl (by kernel_rfl) (by kernel_rfl) (by kernel_rfl) (by kernel_rfl) (fun _ _ _ h => h) (Or.inl ⟨by rfl, ?_⟩) (by assumption) ?_
    rotate_left
    · intro w hSw
      try dsimp only at hSw
      go_simp
      try with_reducible rfl
    try simp only [Act.put, List.setIfInBounds_toArray, List.set_cons_zero, List.set_cons_succ]
    refine wpAnyG_one (i := 18) (o := { dst := some 43, op := Op.call { callee := Callee.value (Operand.func 19), args := #[Operand.tmp 41, Operand.tmp 42], argTypes := #[24, 24] }, type := 4, pos := _, after := #[{ on := 16, ground := Ground.data }, { on := 17, ground := Ground.data }, { on := 15, ground := Ground.chain }, { on := 15, ground := Ground.guard }], guard := some (15, true) }) (by kernel_rfl) rfl (fun K hK => ?_)
    go_simp
    refine (KS.out _ hHeld.1).mono ?_
    rintro e w9 ⟨rfl, h⟩
    try dsimp only
    refine hK.out _ _ ?_ (fun hHeld => ?_)
    · intro _
      try dsimp only
      exact ⟨h, KC.out _ h⟩
    clear hK K
    try simp only [Act.put, List.setIfInBounds_toArray, List.set_cons_zero, List.set_cons_succ]
    have hHeld := hHeld (by kernel_rfl)
    refine wpAnyG_one (i := 20) (o := { dst := some 45, op := Op.call { callee := Callee.value (Operand.func 12), args := #[Operand.tmp 44], argTypes := #[24] }, type := 31, pos := _, after := #[{ on := 19, ground := Ground.data }, { on := 18, ground := Ground.chain }, { on := 15, ground := Ground.guard }], guard := some (15, true) }) (by kernel_rfl) rfl (fun K hK => ?_)
    go_simp
    refine (KPa.out _ hHeld.1).mono ?_
    rintro e w9 ⟨rfl, h⟩
    try dsimp only
    refine hK.out _ _ ?_ (fun hHeld => ?_)
    · intro _
      try dsimp only
      exact ⟨h, KC.out _ h⟩
    clear hK K
    try simp only [Act.put, List.setIfInBounds_toArray, List.set_cons_zero, List.set_cons_succ]
    have hHeld := hHeld (by kernel_rfl)
    refine wpAnyG_one (i := 22) (o := { dst := some 47, op := Op.call { callee := Callee.value (Operand.func 12), args := #[Operand.tmp 46], argTypes := #[24] }, type := 31, pos := _, after := #[{ on := 21, ground := Ground.data }, { on := 20, ground := Ground.chain }, { on := 15, ground := Ground.guard }], guard := some (15, true) }) (by kernel_rfl) rfl (fun K hK => ?_)
    go_simp
    refine (KPb.out _ hHeld.1).mono ?_
    rintro e w9 ⟨rfl, h⟩
    try dsimp only
    refine hK.out _ _ ?_ (fun hHeld => ?_)
    · intro _
      try dsimp only
      exact ⟨h, KC.out _ h⟩
    clear hK K
    try simp only [Act.put, List.setIfInBounds_toArray, List.set_cons_zero, List.set_cons_succ]
    have hHeld := hHeld (by kernel_rfl)
    refine wpAnyG_one (i := 23) (o := { dst := some 48, op := Op.call { callee := Callee.value (Operand.func 16), args := #[Operand.tmp 45, Operand.tmp 47], argTypes := #[31, 31] }, type := 4, pos := _, after := #[{ on := 20, ground := Ground.data }, { on := 22, ground := Ground.data }, { on := 22, ground := Ground.chain }, { on := 15, ground := Ground.guard }], guard := some (15, true) }) (by kernel_rfl) rfl (fun K hK => ?_)
    go_simp
    refine (KT.out _ hHeld.1).mono ?_
    rintro e w9 ⟨rfl, h⟩
    try dsimp only
    refine hK.out _ _ ?_ (fun hHeld => ?_)
    · intro _
      try dsimp only
      exact ⟨h, KC.out _ h⟩
    clear hK K
    try simp only [Act.put, List.setIfInBounds_toArray, List.set_cons_zero, List.set_cons_succ]
    have hHeld := hHeld (by kernel_rfl)
    refine wpAnyG_pure (i := 24) (oi := { dst := some 49, op := Op.binOp BinOp.eql 4 (Operand.tmp 43) (Operand.tmp 48) 4, type := 4, pos := _, after := #[{ on := 18, ground := Ground.data }, { on := 23, ground := Ground.data }, { on := 15, ground := Ground.guard }], guard := some (15, true) }) (v := ?_) rfl (by kernel_rfl) (by kernel_rfl) (by kernel_rfl) (by kernel_rfl) (fun _ _ _ h => h) (Or.inl ⟨by rfl, ?_⟩) (fun _ => by assumption) ?_
    rotate_left
    · intro w hSw
      try dsimp only at hSw
      go_simp
      try with_reducible rfl
    try simp only [Act.put, List.setIfInBounds_toArray, List.set_cons_zero, List.set_cons_succ]
    refine wpAnyG_pure (i := 25) (oi := { dst := some 50, op := Op.pick (Operand.tmp 40) (Operand.tmp 49) (Operand.const (Value.bool false)), type := 4, pos := _, after := #[{ on := 15, ground := Ground.data }, { on := 24, ground := Ground.data }], guard := none }) (v := ?_) rfl (by kernel_rfl) (by kernel_rfl) (by kernel_rfl) (by kernel_rfl) (fun _ _ _ h => h) (Or.inl ⟨by rfl, ?_⟩) (fun _ => by assumption) ?_
    rotate_left
    · intro w hSw
      try dsimp only at hSw
      go_simp
      try with_reducible rfl
    try simp only [Act.put, List.setIfInBounds_toArray, List.set_cons_zero, List.set_cons_succ]
    refine wpAnyG_pure (i := 26) (oi := { dst := some 51, op := Op.move (Operand.tmp 50), type := 4, pos := _, after := #[{ on := 25, ground := Ground.data }, { on := 23, ground := Ground.chain }], guard := none }) (v := ?_) rfl (by kernel_rfl) (by kernel_rfl) (by kernel_rfl) (by kernel_rfl) (fun _ _ _ h => h) (Or.inl ⟨by rfl, ?_⟩) (fun _ => by assumption) ?_
    rotate_left
    · intro w hSw
      try dsimp only at hSw
      go_simp
      try with_reducible rfl
    try simp only [Act.put, List.setIfInBounds_toArray, List.set_cons_zero, List.set_cons_succ]
    refine wpAnyG_take (i := 27) (oi := { dst := some 52, op := Op.load 24 (Operand.tmp 3), type := 24, pos := _, after := #[{ on := 26, ground := Ground.guard }], guard := some (26, true) }) (v := ?_) rfl (by kernel_rfl) (by kernel_rfl) (by kernel_rfl) (by kernel_rfl) (fun _ _ _ h => h) (Or.inl ⟨by rfl, ?_⟩) (by assumption) ?_
    rotate_left
    · intro w hSw
      try dsimp only at hSw
      go_simp
      try with_reducible rfl
    try simp only [Act.put, List.setIfInBounds_toArray, List.set_cons_zero, List.set_cons_succ]
    refine wpAnyG_take (i := 28) (oi := { dst := some 53, op := Op.load 24 (Operand.tmp 3), type := 24, pos := _, after := #[{ on := 26, ground := Ground.guard }], guard := some (26, true) }) (v := ?_) rfl (by kernel_rfl) (by kernel_rfl) (by kernel_rfl) (by kernel_rfl) (fun _ _ _ h => h) (Or.inl ⟨by rfl, ?_⟩) (by assumption) ?_
    rotate_left
    · intro w hSw
      try dsimp only at hSw
      go_simp
      try with_reducible rfl
    try simp only [Act.put, List.setIfInBounds_toArray, List.set_cons_zero, List.set_cons_succ]
    refine wpAnyG_one (i := 29) (o := { dst := some 54, op := Op.call { callee := Callee.value (Operand.func 19), args := #[Operand.tmp 52, Operand.tmp 53], argTypes := #[24, 24] }, type := 4, pos := _, after := #[{ on := 27, ground := Ground.data }, { on := 28, ground := Ground.data }, { on := 26, ground := Ground.chain }, { on := 26, ground := Ground.guard }], guard := some (26, true) }) (by kernel_rfl) rfl (fun K hK => ?_)
    go_simp
    refine (KU.out _ hHeld.1).mono ?_
    rintro e w9 ⟨rfl, h⟩
    try dsimp only
    refine hK.out _ _ ?_ (fun hHeld => ?_)
    · intro _
      try dsimp only
      exact ⟨h, KC.out _ h⟩
    clear hK K
    try simp only [Act.put, List.setIfInBounds_toArray, List.set_cons_zero, List.set_cons_succ]
    have hHeld := hHeld (by kernel_rfl)
    refine wpAnyG_pure (i := 30) (oi := { dst := some 55, op := Op.pick (Operand.tmp 51) (Operand.tmp 54) (Operand.const (Value.bool false)), type := 4, pos := _, after := #[{ on := 26, ground := Ground.data }, { on := 29, ground := Ground.data }], guard := none }) (v := ?_) rfl (by kernel_rfl) (by kernel_rfl) (by kernel_rfl) (by kernel_rfl) (fun _ _ _ h => h) (Or.inl ⟨by rfl, ?_⟩) (fun _ => by assumption) ?_
    rotate_left
    · intro w hSw
      try dsimp only at hSw
      go_simp
      try with_reducible rfl
    try simp only [Act.put, List.setIfInBounds_toArray, List.set_cons_zero, List.set_cons_succ]
    refine wpAnyG_pure (i := 31) (oi := { dst := some 56, op := Op.move (Operand.tmp 55), type := 4, pos := _, after := #[{ on := 30, ground := Ground.data }, { on := 29, ground := Ground.chain }], guard := none }) (v := ?_) rfl (by kernel_rfl) (by kernel_rfl) (by kernel_rfl) (by kernel_rfl) (fun _ _ _ h => h) (Or.inl ⟨by rfl, ?_⟩) (fun _ => by assumption) ?_
    rotate_left
    · intro w hSw
      try dsimp only at hSw
      go_simp
      try with_reducible rfl
    try simp only [Act.put, List.setIfInBounds_toArray, List.set_cons_zero, List.set_cons_succ]
    refine wpAnyG_pure (i := 32) (oi := { dst := some 57, op := Op.move (Operand.tmp 7), type := 3, pos := _, after := #[{ on := 31, ground := Ground.guard }], guard := some (31, true) }) (v := ?_) rfl (by kernel_rfl) (by kernel_rfl) (by kernel_rfl) (by kernel_rfl) (fun _ _ _ h => h) (Or.inl ⟨by rfl, ?_⟩) (fun _ => by assumption) ?_
    rotate_left
    · intro w hSw
      try dsimp only at hSw
      go_simp
      try with_reducible rfl
    try simp only [Act.put, List.setIfInBounds_toArray, List.set_cons_zero, List.set_cons_succ]
    refine wpAnyG_pure (i := 33) (oi := { dst := some 58, op := Op.binOp BinOp.gtr 3 (Operand.tmp 57) (Operand.const (Value.int IntKind.i64 0)) 3, type := 4, pos := _, after := #[{ on := 32, ground := Ground.data }, { on := 31, ground := Ground.guard }], guard := some (31, true) }) (v := ?_) rfl (by kernel_rfl) (by kernel_rfl) (by kernel_rfl) (by kernel_rfl) (fun _ _ _ h => h) (Or.inl ⟨by rfl, ?_⟩) (fun _ => by assumption) ?_
    rotate_left
    · intro w hSw
      try dsimp only at hSw
      go_simp
      try with_reducible rfl
    try simp only [Act.put, List.setIfInBounds_toArray, List.set_cons_zero, List.set_cons_succ]
    refine wpAnyG_pure (i := 34) (oi := { dst := some 59, op := Op.move (Operand.tmp 58), type := 4, pos := _, after := #[{ on := 33, ground := Ground.data }, { on := 31, ground := Ground.chain }, { on := 31, ground := Ground.guard }], guard := some (31, true) }) (v := ?_) rfl (by kernel_rfl) (by kernel_rfl) (by kernel_rfl) (by kernel_rfl) (fun _ _ _ h => h) (Or.inl ⟨by rfl, ?_⟩) (fun _ => by assumption) ?_
    rotate_left
    · intro w hSw
      try dsimp only at hSw
      go_simp
      try with_reducible rfl
    try simp only [Act.put, List.setIfInBounds_toArray, List.set_cons_zero, List.set_cons_succ]
    refine wpAnyG_pure (i := 35) (oi := { dst := some 60, op := Op.load 24 (Operand.tmp 4), type := 24, pos := _, after := #[{ on := 34, ground := Ground.guard }], guard := some (34, false) }) (v := undef) rfl (by kernel_rfl) (by kernel_rfl) (by kernel_rfl) (by kernel_rfl) (fun _ _ _ h => h) (Or.inr ⟨by rfl, rfl⟩) (fun _ => by assumption) ?_
    try simp only [Act.put, List.setIfInBounds_toArray, List.set_cons_zero, List.set_cons_succ]
    refine wpAnyG_pure (i := 36) (oi := { dst := some 61, op := Op.load 24 (Operand.tmp 5), type := 24, pos := _, after := #[{ on := 34, ground := Ground.guard }], guard := some (34, false) }) (v := undef) rfl (by kernel_rfl) (by kernel_rfl) (by kernel_rfl) (by kernel_rfl) (fun _ _ _ h => h) (Or.inr ⟨by rfl, rfl⟩) (fun _ => by assumption) ?_
    try simp only [Act.put, List.setIfInBounds_toArray, List.set_cons_zero, List.set_cons_succ]
    refine wpAnyG_pure (i := 37) (oi := { dst := some 62, op := Op.call { callee := Callee.value (Operand.func 17), args := #[Operand.tmp 60, Operand.tmp 61], argTypes := #[24, 24] }, type := 3, pos := _, after := #[{ on := 35, ground := Ground.data }, { on := 36, ground := Ground.data }, { on := 34, ground := Ground.chain }, { on := 34, ground := Ground.guard }], guard := some (34, false) }) (v := undef) rfl (by kernel_rfl) (by kernel_rfl) (by kernel_rfl) (by kernel_rfl) (fun _ _ _ h => h) (Or.inr ⟨by rfl, rfl⟩) (fun _ => by assumption) ?_
    try simp only [Act.put, List.setIfInBounds_toArray, List.set_cons_zero, List.set_cons_succ]
    refine wpAnyG_pure (i := 38) (oi := { dst := some 63, op := Op.binOp BinOp.gtr 3 (Operand.tmp 62) (Operand.const (Value.int IntKind.i64 0)) 3, type := 4, pos := _, after := #[{ on := 37, ground := Ground.data }, { on := 34, ground := Ground.guard }], guard := some (34, false) }) (v := undef) rfl (by kernel_rfl) (by kernel_rfl) (by kernel_rfl) (by kernel_rfl) (fun _ _ _ h => h) (Or.inr ⟨by rfl, rfl⟩) (fun _ => by assumption) ?_
    try simp only [Act.put, List.setIfInBounds_toArray, List.set_cons_zero, List.set_cons_succ]
    refine wpAnyG_pure (i := 39) (oi := { dst := some 64, op := Op.pick (Operand.tmp 59) (Operand.const (Value.bool true)) (Operand.tmp 63), type := 4, pos := _, after := #[{ on := 34, ground := Ground.data }, { on := 38, ground := Ground.data }, { on := 31, ground := Ground.guard }], guard := some (31, true) }) (v := ?_) rfl (by kernel_rfl) (by kernel_rfl) (by kernel_rfl) (by kernel_rfl) (fun _ _ _ h => h) (Or.inl ⟨by rfl, ?_⟩) (fun _ => by assumption) ?_
    rotate_left
    · intro w hSw
      try dsimp only at hSw
      go_simp
      try with_reducible rfl
    try simp only [Act.put, List.setIfInBounds_toArray, List.set_cons_zero, List.set_cons_succ]
    refine wpAnyG_pure (i := 40) (oi := { dst := some 65, op := Op.move (Operand.tmp 64), type := 4, pos := _, after := #[{ on := 39, ground := Ground.data }, { on := 37, ground := Ground.chain }, { on := 31, ground := Ground.guard }], guard := some (31, true) }) (v := ?_) rfl (by kernel_rfl) (by kernel_rfl) (by kernel_rfl) (by kernel_rfl) (fun _ _ _ h => h) (Or.inl ⟨by rfl, ?_⟩) (fun _ => by assumption) ?_
    rotate_left
    · intro w hSw
      try dsimp only at hSw
      go_simp
      try with_reducible rfl
    try simp only [Act.put, List.setIfInBounds_toArray, List.set_cons_zero, List.set_cons_succ]
    refine wpAnyG_pure (i := 41) (oi := { dst := some 66, op := Op.load 24 (Operand.tmp 3), type := 24, pos := _, after := #[{ on := 40, ground := Ground.guard }], guard := some (40, false) }) (v := undef) rfl (by kernel_rfl) (by kernel_rfl) (by kernel_rfl) (by kernel_rfl) (fun _ _ _ h => h) (Or.inr ⟨by rfl, rfl⟩) (fun _ => by assumption) ?_
    try simp only [Act.put, List.setIfInBounds_toArray, List.set_cons_zero, List.set_cons_succ]
    refine wpAnyG_pure (i := 42) (oi := { dst := some 67, op := Op.load 24 (Operand.tmp 5), type := 24, pos := _, after := #[{ on := 40, ground := Ground.guard }], guard := some (40, false) }) (v := undef) rfl (by kernel_rfl) (by kernel_rfl) (by kernel_rfl) (by kernel_rfl) (fun _ _ _ h => h) (Or.inr ⟨by rfl, rfl⟩) (fun _ => by assumption) ?_
    try simp only [Act.put, List.setIfInBounds_toArray, List.set_cons_zero, List.set_cons_succ]
    refine wpAnyG_pure (i := 43) (oi := { dst := some 68, op := Op.call { callee := Callee.value (Operand.func 17), args := #[Operand.tmp 66, Operand.tmp 67], argTypes := #[24, 24] }, type := 3, pos := _, after := #[{ on := 41, ground := Ground.data }, { on := 42, ground := Ground.data }, { on := 40, ground := Ground.chain }, { on := 40, ground := Ground.guard }], guard := some (40, false) }) (v := undef) rfl (by kernel_rfl) (by kernel_rfl) (by kernel_rfl) (by kernel_rfl) (fun _ _ _ h => h) (Or.inr ⟨by rfl, rfl⟩) (fun _ => by assumption) ?_
    try simp only [Act.put, List.setIfInBounds_toArray, List.set_cons_zero, List.set_cons_succ]
    refine wpAnyG_pure (i := 44) (oi := { dst := some 69, op := Op.binOp BinOp.leq 3 (Operand.tmp 68) (Operand.const (Value.int IntKind.i64 0)) 3, type := 4, pos := _, after := #[{ on := 43, ground := Ground.data }, { on := 40, ground := Ground.guard }], guard := some (40, false) }) (v := undef) rfl (by kernel_rfl) (by kernel_rfl) (by kernel_rfl) (by kernel_rfl) (fun _ _ _ h => h) (Or.inr ⟨by rfl, rfl⟩) (fun _ => by assumption) ?_
    try simp only [Act.put, List.setIfInBounds_toArray, List.set_cons_zero, List.set_cons_succ]
    refine wpAnyG_pure (i := 45) (oi := { dst := some 70, op := Op.pick (Operand.tmp 65) (Operand.const (Value.bool true)) (Operand.tmp 69), type := 4, pos := _, after := #[{ on := 40, ground := Ground.data }, { on := 44, ground := Ground.data }, { on := 31, ground := Ground.guard }], guard := some (31, true) }) (v := ?_) rfl (by kernel_rfl) (by kernel_rfl) (by kernel_rfl) (by kernel_rfl) (fun _ _ _ h => h) (Or.inl ⟨by rfl, ?_⟩) (fun _ => by assumption) ?_
    rotate_left
    · intro w hSw
      try dsimp only at hSw
      go_simp
      try with_reducible rfl
    try simp only [Act.put, List.setIfInBounds_toArray, List.set_cons_zero, List.set_cons_succ]
    refine wpAnyG_pure (i := 46) (oi := { dst := some 71, op := Op.pick (Operand.tmp 56) (Operand.tmp 70) (Operand.const (Value.bool false)), type := 4, pos := _, after := #[{ on := 31, ground := Ground.data }, { on := 45, ground := Ground.data }], guard := none }) (v := ?_) rfl (by kernel_rfl) (by kernel_rfl) (by kernel_rfl) (by kernel_rfl) (fun _ _ _ h => h) (Or.inl ⟨by rfl, ?_⟩) (fun _ => by assumption) ?_
    rotate_left
    · intro w hSw
      try dsimp only at hSw
      go_simp
      try with_reducible rfl
    try simp only [Act.put, List.setIfInBounds_toArray, List.set_cons_zero, List.set_cons_succ]
    refine wpAnyG_pure (i := 47) (oi := { dst := some 72, op := Op.move (Operand.tmp 71), type := 4, pos := _, after := #[{ on := 46, ground := Ground.data }, { on := 43, ground := Ground.chain }], guard := none }) (v := ?_) rfl (by kernel_rfl) (by kernel_rfl) (by kernel_rfl) (by kernel_rfl) (fun _ _ _ h => h) (Or.inl ⟨by rfl, ?_⟩) (fun _ => by assumption) ?_
    rotate_left
    · intro w hSw
      try dsimp only at hSw
      go_simp
      try with_reducible rfl
    try simp only [Act.put, List.setIfInBounds_toArray, List.set_cons_zero, List.set_cons_succ]
    refine wpAnyG_one (i := 48) (o := { dst := some 73, op := Op.call { callee := Callee.value (Operand.func 9), args := #[], argTypes := #[] }, type := 4, pos := _, after := #[{ on := 47, ground := Ground.chain }, { on := 47, ground := Ground.guard }], guard := some (47, true) }) (by kernel_rfl) rfl (fun K hK => ?_)
    go_simp
    refine (KZ.out _ hHeld.1).mono ?_
    rintro e w9 ⟨rfl, h⟩
    try dsimp only
    refine hK.out _ _ ?_ (fun hHeld => ?_)
    · intro _
      try dsimp only
      exact ⟨h, KC.out _ h⟩
    clear hK K
    try simp only [Act.put, List.setIfInBounds_toArray, List.set_cons_zero, List.set_cons_succ]
    have hHeld := hHeld (by kernel_rfl)
    refine wpAnyG_pure (i := 49) (oi := { dst := some 74, op := Op.pick (Operand.tmp 72) (Operand.tmp 73) (Operand.const (Value.bool false)), type := 4, pos := _, after := #[{ on := 47, ground := Ground.data }, { on := 48, ground := Ground.data }], guard := none }) (v := ?_) rfl (by kernel_rfl) (by kernel_rfl) (by kernel_rfl) (by kernel_rfl) (fun _ _ _ h => h) (Or.inl ⟨by rfl, ?_⟩) (fun _ => by assumption) ?_
    rotate_left
    · intro w hSw
      try dsimp only at hSw
      go_simp
      try with_reducible rfl
    try simp only [Act.put, List.setIfInBounds_toArray, List.set_cons_zero, List.set_cons_succ]
    refine wpAnyG_pure (i := 50) (oi := { dst := some 6, op := Op.assign (Operand.tmp 74), type := 4, pos := _, after := #[{ on := 49, ground := Ground.data }, { on := 48, ground := Ground.chain }, { on := 0, ground := Ground.phase }, { on := 1, ground := Ground.phase }, { on := 2, ground := Ground.phase }, { on := 3, ground := Ground.phase }, { on := 4, ground := Ground.phase }, { on := 5, ground := Ground.phase }, { on := 6, ground := Ground.phase }, { on := 7, ground := Ground.phase }, { on := 8, ground := Ground.phase }, { on := 9, ground := Ground.phase }, { on := 10, ground := Ground.phase }, { on := 11, ground := Ground.phase }, { on := 12, ground := Ground.phase }, { on := 13, ground := Ground.phase }, { on := 14, ground := Ground.phase }, { on := 15, ground := Ground.phase }, { on := 16, ground := Ground.phase }, { on := 17, ground := Ground.phase }, { on := 18, ground := Ground.phase }, { on := 19, ground := Ground.phase }, { on := 20, ground := Ground.phase }, { on := 21, ground := Ground.phase }, { on := 22, ground := Ground.phase }, { on := 23, ground := Ground.phase }, { on := 24, ground := Ground.phase }, { on := 25, ground := Ground.phase }, { on := 26, ground := Ground.phase }, { on := 27, ground := Ground.phase }, { on := 28, ground := Ground.phase }, { on := 29, ground := Ground.phase }, { on := 30, ground := Ground.phase }, { on := 31, ground := Ground.phase }, { on := 32, ground := Ground.phase }, { on := 33, ground := Ground.phase }, { on := 34, ground := Ground.phase }, { on := 35, ground := Ground.phase }, { on := 36, ground := Ground.phase }, { on := 37, ground := Ground.phase }, { on := 38, ground := Ground.phase }, { on := 39, ground := Ground.phase }, { on := 40, ground := Ground.phase }, { on := 41, ground := Ground.phase }, { on := 42, ground := Ground.phase }, { on := 43, ground := Ground.phase }, { on := 44, ground := Ground.phase }, { on := 45, ground := Ground.phase }, { on := 46, ground := Ground.phase }, { on := 47, ground := Ground.phase }, { on := 48, ground := Ground.phase }, { on := 49, ground := Ground.phase }], guard := none }) (v := ?_) rfl (by kernel_rfl) (by kernel_rfl) (by kernel_rfl) (by kernel_rfl) (fun _ _ _ h => h) (Or.inl ⟨by rfl, ?_⟩) (fun _ => by assumption) ?_
    rotate_left
    · intro w hSw
      try dsimp only at hSw
      go_simp
      try with_reducible rfl
    try simp only [Act.put, List.setIfInBounds_toArray, List.set_cons_zero, List.set_cons_succ]
    refine wpAnyG_done (by kernel_rfl) ?_ _
    refine NoPanic.normal ?_
    go_wp2_with fail
    go_ret
    exact ⟨rfl, next H5.out.below hHeld.1⟩
  · have j3 : (0 < z) = False := eq_false (of_decide_eq_false h3)
    have k3 := h3
    have j4 := of_decide_eq_true h4
    have k4 := h4
    clear h3 h4
    go_wp2_with fail
    refine wp_region_noPanic ?_
    refine wp_heldG (fun W => Below w5.heap.size w5 W ∧ (W.cell? ⟨bx, 0, none⟩ = some (.slice Aa na ca) ∧ W.cell? ⟨bx, 1, none⟩ = some (.int .i64 va) ∧ W.cell? ⟨bx, 2, none⟩ = some (.int .i64 ea) ∧ W.cell? ⟨bx, 3, none⟩ = some (.slice Ba ma da)) ∧ (W.cell? ⟨bx + 1, 0, none⟩ = some (.slice Ab nb cb) ∧ W.cell? ⟨bx + 1, 1, none⟩ = some (.int .i64 vb) ∧ W.cell? ⟨bx + 1, 2, none⟩ = some (.int .i64 eb) ∧ W.cell? ⟨bx + 1, 3, none⟩ = some (.slice Bb mb db)) ∧ (W.cell? ⟨bx + 1 + 1, 0, none⟩ = some (.slice Ac nc cc) ∧ W.cell? ⟨bx + 1 + 1, 1, none⟩ = some (.int .i64 vc) ∧ W.cell? ⟨bx + 1 + 1, 2, none⟩ = some (.int .i64 ec) ∧ W.cell? ⟨bx + 1 + 1, 3, none⟩ = some (.slice Bc mc dc))) [] (by kernel_rfl) ?hs0 ?rg0
    case hs0 =>
      exact ⟨H6, KC.out _ H6⟩
    case rg0 =>
    intro hHeld
    refine wpAnyG_pure (i := 0) (oi := { dst := some 25, op := Op.move (Operand.tmp 7), type := 3, pos := _, after := #[], guard := none }) (v := ?_) rfl (by kernel_rfl) (by kernel_rfl) (by kernel_rfl) (by kernel_rfl) (fun _ _ _ h => h) (Or.inl ⟨by rfl, ?_⟩) (fun _ => by assumption) ?_
    rotate_left
    · intro w hSw
      try dsimp only at hSw
      go_simp
      try with_reducible rfl
    try simp only [Act.put, List.setIfInBounds_toArray, List.set_cons_zero, List.set_cons_succ]
    refine wpAnyG_take (i := 1) (oi := { dst := some 26, op := Op.load 24 (Operand.tmp 3), type := 24, pos := _, after := #[], guard := none }) (v := ?_) rfl (by kernel_rfl) (by kernel_rfl) (by kernel_rfl) (by kernel_rfl) (fun _ _ _ h => h) (Or.inl ⟨by rfl, ?_⟩) (by assumption) ?_
    rotate_left
    · intro w hSw
      try dsimp only at hSw
      go_simp
      try with_reducible rfl
    try simp only [Act.put, List.setIfInBounds_toArray, List.set_cons_zero, List.set_cons_succ]
    refine wpAnyG_take (i := 3) (oi := { dst := some 28, op := Op.load 24 (Operand.tmp 4), type := 24, pos := _, after := #[], guard := none }) (v := ?_) rfl (by kernel_rfl) (by kernel_rfl) (by kernel_rfl) (by kernel_rfl) (fun _ _ _ h => h) (Or.inl ⟨by rfl, ?_⟩) (by assumption) ?_
    rotate_left
    · intro w hSw
      try dsimp only at hSw
      go_simp
      try with_reducible rfl
    try simp only [Act.put, List.setIfInBounds_toArray, List.set_cons_zero, List.set_cons_succ]
    refine wpAnyG_one (i := 2) (o := { dst := some 27, op := Op.call { callee := Callee.value (Operand.func 12), args := #[Operand.tmp 26], argTypes := #[24] }, type := 31, pos := _, after := #[{ on := 1, ground := Ground.data }], guard := none }) (by kernel_rfl) rfl (fun K hK => ?_)
    go_simp
    refine (KPa.out _ hHeld.1).mono ?_
    rintro e w9 ⟨rfl, h⟩
    try dsimp only
    refine hK.out _ _ ?_ (fun hHeld => ?_)
    · intro _
      try dsimp only
      exact ⟨h, KC.out _ h⟩
    clear hK K
    try simp only [Act.put, List.setIfInBounds_toArray, List.set_cons_zero, List.set_cons_succ]
    have hHeld := hHeld (by kernel_rfl)
    refine wpAnyG_one (i := 4) (o := { dst := some 29, op := Op.call { callee := Callee.value (Operand.func 12), args := #[Operand.tmp 28], argTypes := #[24] }, type := 31, pos := _, after := #[{ on := 3, ground := Ground.data }, { on := 2, ground := Ground.chain }], guard := none }) (by kernel_rfl) rfl (fun K hK => ?_)
    go_simp
    refine (KPb.out _ hHeld.1).mono ?_
    rintro e w9 ⟨rfl, h⟩
    try dsimp only
    refine hK.out _ _ ?_ (fun hHeld => ?_)
    · intro _
      try dsimp only
      exact ⟨h, KC.out _ h⟩
    clear hK K
    try simp only [Act.put, List.setIfInBounds_toArray, List.set_cons_zero, List.set_cons_succ]
    have hHeld := hHeld (by kernel_rfl)
    refine wpAnyG_one (i := 5) (o := { dst := some 30, op := Op.call { callee := Callee.value (Operand.func 18), args := #[Operand.tmp 27, Operand.tmp 29], argTypes := #[31, 31] }, type := 3, pos := _, after := #[{ on := 2, ground := Ground.data }, { on := 4, ground := Ground.data }, { on := 4, ground := Ground.chain }], guard := none }) (by kernel_rfl) rfl (fun K hK => ?_)
    go_simp
    refine (KR.out _ hHeld.1).mono ?_
    rintro e w9 ⟨rfl, h⟩
    try dsimp only
    refine hK.out _ _ ?_ (fun hHeld => ?_)
    · intro _
      try dsimp only
      exact ⟨h, KC.out _ h⟩
    clear hK K
    try simp only [Act.put, List.setIfInBounds_toArray, List.set_cons_zero, List.set_cons_succ]
    have hHeld := hHeld (by kernel_rfl)
    refine wpAnyG_pure (i := 6) (oi := { dst := some 31, op := Op.binOp BinOp.eql 3 (Operand.tmp 25) (Operand.tmp 30) 3, type := 4, pos := _, after := #[{ on := 0, ground := Ground.data }, { on := 5, ground := Ground.data }], guard := none }) (v := ?_) rfl (by kernel_rfl) (by kernel_rfl) (by kernel_rfl) (by kernel_rfl) (fun _ _ _ h => h) (Or.inl ⟨by rfl, ?_⟩) (fun _ => by assumption) ?_
    rotate_left
    · intro w hSw
      try dsimp only at hSw
      go_simp
      try with_reducible rfl
    try simp only [Act.put, List.setIfInBounds_toArray, List.set_cons_zero, List.set_cons_succ]
    refine wpAnyG_pure (i := 7) (oi := { dst := some 32, op := Op.move (Operand.tmp 31), type := 4, pos := _, after := #[{ on := 6, ground := Ground.data }, { on := 5, ground := Ground.chain }], guard := none }) (v := ?_) rfl (by kernel_rfl) (by kernel_rfl) (by kernel_rfl) (by kernel_rfl) (fun _ _ _ h => h) (Or.inl ⟨by rfl, ?_⟩) (fun _ => by assumption) ?_
    rotate_left
    · intro w hSw
      try dsimp only at hSw
      go_simp
      try with_reducible rfl
    try simp only [Act.put, List.setIfInBounds_toArray, List.set_cons_zero, List.set_cons_succ]
    refine wpAnyG_pure (i := 8) (oi := { dst := some 33, op := Op.move (Operand.tmp 7), type := 3, pos := _, after := #[{ on := 7, ground := Ground.guard }], guard := some (7, true) }) (v := ?_) rfl (by kernel_rfl) (by kernel_rfl) (by kernel_rfl) (by kernel_rfl) (fun _ _ _ h => h) (Or.inl ⟨by rfl, ?_⟩) (fun _ => by assumption) ?_
    rotate_left
    · intro w hSw
      try dsimp only at hSw
      go_simp
      try with_reducible rfl
    try simp only [Act.put, List.setIfInBounds_toArray, List.set_cons_zero, List.set_cons_succ]
    refine wpAnyG_take (i := 9) (oi := { dst := some 34, op := Op.load 24 (Operand.tmp 4), type := 24, pos := _, after := #[{ on := 7, ground := Ground.guard }], guard := some (7, true) }) (v := ?_) rfl (by kernel_rfl) (by kernel_rfl) (by kernel_rfl) (by kernel_rfl) (fun _ _ _ h => h) (Or.inl ⟨by rfl, ?_⟩) (by assumption) ?_
    rotate_left
    · intro w hSw
      try dsimp only at hSw
      go_simp
      try with_reducible rfl
    try simp only [Act.put, List.setIfInBounds_toArray, List.set_cons_zero, List.set_cons_succ]
    refine wpAnyG_take (i := 10) (oi := { dst := some 35, op := Op.load 24 (Operand.tmp 3), type := 24, pos := _, after := #[{ on := 7, ground := Ground.guard }], guard := some (7, true) }) (v := ?_) rfl (by kernel_rfl) (by kernel_rfl) (by kernel_rfl) (by kernel_rfl) (fun _ _ _ h => h) (Or.inl ⟨by rfl, ?_⟩) (by assumption) ?_
    rotate_left
    · intro w hSw
      try dsimp only at hSw
      go_simp
      try with_reducible rfl
    try simp only [Act.put, List.setIfInBounds_toArray, List.set_cons_zero, List.set_cons_succ]
    refine wpAnyG_one (i := 11) (o := { dst := some 36, op := Op.call { callee := Callee.value (Operand.func 17), args := #[Operand.tmp 34, Operand.tmp 35], argTypes := #[24, 24] }, type := 3, pos := _, after := #[{ on := 9, ground := Ground.data }, { on := 10, ground := Ground.data }, { on := 7, ground := Ground.chain }, { on := 7, ground := Ground.guard }], guard := some (7, true) }) (by kernel_rfl) rfl (fun K hK => ?_)
    go_simp
    refine (KB.out _ hHeld.1).mono ?_
    rintro e w9 ⟨rfl, h⟩
    try dsimp only
    refine hK.out _ _ ?_ (fun hHeld => ?_)
    · intro _
      try dsimp only
      exact ⟨h, KC.out _ h⟩
    clear hK K
    try simp only [Act.put, List.setIfInBounds_toArray, List.set_cons_zero, List.set_cons_succ]
    have hHeld := hHeld (by kernel_rfl)
    refine wpAnyG_pure (i := 12) (oi := { dst := some 37, op := Op.unOp UnOp.neg 3 (Operand.tmp 36), type := 3, pos := _, after := #[{ on := 11, ground := Ground.data }, { on := 7, ground := Ground.guard }], guard := some (7, true) }) (v := ?_) rfl (by kernel_rfl) (by kernel_rfl) (by kernel_rfl) (by kernel_rfl) (fun _ _ _ h => h) (Or.inl ⟨by rfl, ?_⟩) (fun _ => by assumption) ?_
    rotate_left
    · intro w hSw
      try dsimp only at hSw
      go_simp
      try with_reducible rfl
    try simp only [Act.put, List.setIfInBounds_toArray, List.set_cons_zero, List.set_cons_succ]
    refine wpAnyG_pure (i := 13) (oi := { dst := some 38, op := Op.binOp BinOp.eql 3 (Operand.tmp 33) (Operand.tmp 37) 3, type := 4, pos := _, after := #[{ on := 8, ground := Ground.data }, { on := 12, ground := Ground.data }, { on := 7, ground := Ground.guard }], guard := some (7, true) }) (v := ?_) rfl (by kernel_rfl) (by kernel_rfl) (by kernel_rfl) (by kernel_rfl) (fun _ _ _ h => h) (Or.inl ⟨by rfl, ?_⟩) (fun _ => by assumption) ?_
    rotate_left
    · intro w hSw
      try dsimp only at hSw
      go_simp
      try with_reducible rfl
    try simp only [Act.put, List.setIfInBounds_toArray, List.set_cons_zero, List.set_cons_succ]
    refine wpAnyG_pure (i := 14) (oi := { dst := some 39, op := Op.pick (Operand.tmp 32) (Operand.tmp 38) (Operand.const (Value.bool false)), type := 4, pos := _, after := #[{ on := 7, ground := Ground.data }, { on := 13, ground := Ground.data }], guard := none }) (v := ?_) rfl (by kernel_rfl) (by kernel_rfl) (by kernel_rfl) (by kernel_rfl) (fun _ _ _ h => h) (Or.inl ⟨by rfl, ?_⟩) (fun _ => by assumption) ?_
    rotate_left
    · intro w hSw
      try dsimp only at hSw
      go_simp
      try with_reducible rfl
    try simp only [Act.put, List.setIfInBounds_toArray, List.set_cons_zero, List.set_cons_succ]
    refine wpAnyG_pure (i := 15) (oi := { dst := some 40, op := Op.move (Operand.tmp 39), type := 4, pos := _, after := #[{ on := 14, ground := Ground.data }, { on := 11, ground := Ground.chain }], guard := none }) (v := ?_) rfl (by kernel_rfl) (by kernel_rfl) (by kernel_rfl) (by kernel_rfl) (fun _ _ _ h => h) (Or.inl ⟨by rfl, ?_⟩) (fun _ => by assumption) ?_
    rotate_left
    · intro w hSw
      try dsimp only at hSw
      go_simp
      try with_reducible rfl
    try simp only [Act.put, List.setIfInBounds_toArray, List.set_cons_zero, List.set_cons_succ]
    refine wpAnyG_take (i := 16) (oi := { dst := some 41, op := Op.load 24 (Operand.tmp 3), type := 24, pos := _, after := #[{ on := 15, ground := Ground.guard }], guard := some (15, true) }) (v := ?_) rfl (by kernel_rfl) (by kernel_rfl) (by kernel_rfl) (by kernel_rfl) (fun _ _ _ h => h) (Or.inl ⟨by rfl, ?_⟩) (by assumption) ?_
    rotate_left
    · intro w hSw
      try dsimp only at hSw
      go_simp
      try with_reducible rfl
    try simp only [Act.put, List.setIfInBounds_toArray, List.set_cons_zero, List.set_cons_succ]
    refine wpAnyG_take (i := 17) (oi := { dst := some 42, op := Op.load 24 (Operand.tmp 4), type := 24, pos := _, after := #[{ on := 15, ground := Ground.guard }], guard := some (15, true) }) (v := ?_) rfl (by kernel_rfl) (by kernel_rfl) (by kernel_rfl) (by kernel_rfl) (fun _ _ _ h => h) (Or.inl ⟨by rfl, ?_⟩) (by assumption) ?_
    rotate_left
    · intro w hSw
      try dsimp only at hSw
      go_simp
      try with_reducible rfl
    try simp only [Act.put, List.setIfInBounds_toArray, List.set_cons_zero, List.set_cons_succ]
    refine wpAnyG_take (i := 19) (oi := { dst := some 44, op := Op.load 24 (Operand.tmp 3), type := 24, pos := _, after := #[{ on := 15, ground := Ground.guard }], guard := some (15, true) }) (v := ?_) rfl (by kernel_rfl) (by kernel_rfl) (by kernel_rfl) (by kernel_rfl) (fun _ _ _ h => h) (Or.inl ⟨by rfl, ?_⟩) (by assumption) ?_
    rotate_left
    · intro w hSw
      try dsimp only at hSw
      go_simp
      try with_reducible rfl
    try simp only [Act.put, List.setIfInBounds_toArray, List.set_cons_zero, List.set_cons_succ]
    refine wpAnyG_take (i := 21) (oi := { dst := some 46, op := Op.load 24 (Operand.tmp 4), type := 24, pos := _, after := #[{ on := 15, ground := Ground.guard }], guard := some (15, true) }) (v := ?_) rfl (by kernel_rfl) (by kernel_rfl) (by kernel_rfl) (by kernel_rfl) (fun _ _ _ h => h) (Or.inl ⟨by rfl, ?_⟩) (by assumption) ?_
    rotate_left
    · intro w hSw
      try dsimp only at hSw
      go_simp
      try with_reducible rfl
    try simp only [Act.put, List.setIfInBounds_toArray, List.set_cons_zero, List.set_cons_succ]
    refine wpAnyG_one (i := 18) (o := { dst := some 43, op := Op.call { callee := Callee.value (Operand.func 19), args := #[Operand.tmp 41, Operand.tmp 42], argTypes := #[24, 24] }, type := 4, pos := _, after := #[{ on := 16, ground := Ground.data }, { on := 17, ground := Ground.data }, { on := 15, ground := Ground.chain }, { on := 15, ground := Ground.guard }], guard := some (15, true) }) (by kernel_rfl) rfl (fun K hK => ?_)
    go_simp
    refine (KS.out _ hHeld.1).mono ?_
    rintro e w9 ⟨rfl, h⟩
    try dsimp only
    refine hK.out _ _ ?_ (fun hHeld => ?_)
    · intro _
      try dsimp only
      exact ⟨h, KC.out _ h⟩
    clear hK K
    try simp only [Act.put, List.setIfInBounds_toArray, List.set_cons_zero, List.set_cons_succ]
    have hHeld := hHeld (by kernel_rfl)
    refine wpAnyG_one (i := 20) (o := { dst := some 45, op := Op.call { callee := Callee.value (Operand.func 12), args := #[Operand.tmp 44], argTypes := #[24] }, type := 31, pos := _, after := #[{ on := 19, ground := Ground.data }, { on := 18, ground := Ground.chain }, { on := 15, ground := Ground.guard }], guard := some (15, true) }) (by kernel_rfl) rfl (fun K hK => ?_)
    go_simp
    refine (KPa.out _ hHeld.1).mono ?_
    rintro e w9 ⟨rfl, h⟩
    try dsimp only
    refine hK.out _ _ ?_ (fun hHeld => ?_)
    · intro _
      try dsimp only
      exact ⟨h, KC.out _ h⟩
    clear hK K
    try simp only [Act.put, List.setIfInBounds_toArray, List.set_cons_zero, List.set_cons_succ]
    have hHeld := hHeld (by kernel_rfl)
    refine wpAnyG_one (i := 22) (o := { dst := some 47, op := Op.call { callee := Callee.value (Operand.func 12), args := #[Operand.tmp 46], argTypes := #[24] }, type := 31, pos := _, after := #[{ on := 21, ground := Ground.data }, { on := 20, ground := Ground.chain }, { on := 15, ground := Ground.guard }], guard := some (15, true) }) (by kernel_rfl) rfl (fun K hK => ?_)
    go_simp
    refine (KPb.out _ hHeld.1).mono ?_
    rintro e w9 ⟨rfl, h⟩
    try dsimp only
    refine hK.out _ _ ?_ (fun hHeld => ?_)
    · intro _
      try dsimp only
      exact ⟨h, KC.out _ h⟩
    clear hK K
    try simp only [Act.put, List.setIfInBounds_toArray, List.set_cons_zero, List.set_cons_succ]
    have hHeld := hHeld (by kernel_rfl)
    refine wpAnyG_one (i := 23) (o := { dst := some 48, op := Op.call { callee := Callee.value (Operand.func 16), args := #[Operand.tmp 45, Operand.tmp 47], argTypes := #[31, 31] }, type := 4, pos := _, after := #[{ on := 20, ground := Ground.data }, { on := 22, ground := Ground.data }, { on := 22, ground := Ground.chain }, { on := 15, ground := Ground.guard }], guard := some (15, true) }) (by kernel_rfl) rfl (fun K hK => ?_)
    go_simp
    refine (KT.out _ hHeld.1).mono ?_
    rintro e w9 ⟨rfl, h⟩
    try dsimp only
    refine hK.out _ _ ?_ (fun hHeld => ?_)
    · intro _
      try dsimp only
      exact ⟨h, KC.out _ h⟩
    clear hK K
    try simp only [Act.put, List.setIfInBounds_toArray, List.set_cons_zero, List.set_cons_succ]
    have hHeld := hHeld (by kernel_rfl)
    refine wpAnyG_pure (i := 24) (oi := { dst := some 49, op := Op.binOp BinOp.eql 4 (Operand.tmp 43) (Operand.tmp 48) 4, type := 4, pos := _, after := #[{ on := 18, ground := Ground.data }, { on := 23, ground := Ground.data }, { on := 15, ground := Ground.guard }], guard := some (15, true) }) (v := ?_) rfl (by kernel_rfl) (by kernel_rfl) (by kernel_rfl) (by kernel_rfl) (fun _ _ _ h => h) (Or.inl ⟨by rfl, ?_⟩) (fun _ => by assumption) ?_
    rotate_left
    · intro w hSw
      try dsimp only at hSw
      go_simp
      try with_reducible rfl
    try simp only [Act.put, List.setIfInBounds_toArray, List.set_cons_zero, List.set_cons_succ]
    refine wpAnyG_pure (i := 25) (oi := { dst := some 50, op := Op.pick (Operand.tmp 40) (Operand.tmp 49) (Operand.const (Value.bool false)), type := 4, pos := _, after := #[{ on := 15, ground := Ground.data }, { on := 24, ground := Ground.data }], guard := none }) (v := ?_) rfl (by kernel_rfl) (by kernel_rfl) (by kernel_rfl) (by kernel_rfl) (fun _ _ _ h => h) (Or.inl ⟨by rfl, ?_⟩) (fun _ => by assumption) ?_
    rotate_left
    · intro w hSw
      try dsimp only at hSw
      go_simp
      try with_reducible rfl
    try simp only [Act.put, List.setIfInBounds_toArray, List.set_cons_zero, List.set_cons_succ]
    refine wpAnyG_pure (i := 26) (oi := { dst := some 51, op := Op.move (Operand.tmp 50), type := 4, pos := _, after := #[{ on := 25, ground := Ground.data }, { on := 23, ground := Ground.chain }], guard := none }) (v := ?_) rfl (by kernel_rfl) (by kernel_rfl) (by kernel_rfl) (by kernel_rfl) (fun _ _ _ h => h) (Or.inl ⟨by rfl, ?_⟩) (fun _ => by assumption) ?_
    rotate_left
    · intro w hSw
      try dsimp only at hSw
      go_simp
      try with_reducible rfl
    try simp only [Act.put, List.setIfInBounds_toArray, List.set_cons_zero, List.set_cons_succ]
    refine wpAnyG_take (i := 27) (oi := { dst := some 52, op := Op.load 24 (Operand.tmp 3), type := 24, pos := _, after := #[{ on := 26, ground := Ground.guard }], guard := some (26, true) }) (v := ?_) rfl (by kernel_rfl) (by kernel_rfl) (by kernel_rfl) (by kernel_rfl) (fun _ _ _ h => h) (Or.inl ⟨by rfl, ?_⟩) (by assumption) ?_
    rotate_left
    · intro w hSw
      try dsimp only at hSw
      go_simp
      try with_reducible rfl
    try simp only [Act.put, List.setIfInBounds_toArray, List.set_cons_zero, List.set_cons_succ]
    refine wpAnyG_take (i := 28) (oi := { dst := some 53, op := Op.load 24 (Operand.tmp 3), type := 24, pos := _, after := #[{ on := 26, ground := Ground.guard }], guard := some (26, true) }) (v := ?_) rfl (by kernel_rfl) (by kernel_rfl) (by kernel_rfl) (by kernel_rfl) (fun _ _ _ h => h) (Or.inl ⟨by rfl, ?_⟩) (by assumption) ?_
    rotate_left
    · intro w hSw
      try dsimp only at hSw
      go_simp
      try with_reducible rfl
    try simp only [Act.put, List.setIfInBounds_toArray, List.set_cons_zero, List.set_cons_succ]
    refine wpAnyG_one (i := 29) (o := { dst := some 54, op := Op.call { callee := Callee.value (Operand.func 19), args := #[Operand.tmp 52, Operand.tmp 53], argTypes := #[24, 24] }, type := 4, pos := _, after := #[{ on := 27, ground := Ground.data }, { on := 28, ground := Ground.data }, { on := 26, ground := Ground.chain }, { on := 26, ground := Ground.guard }], guard := some (26, true) }) (by kernel_rfl) rfl (fun K hK => ?_)
    go_simp
    refine (KU.out _ hHeld.1).mono ?_
    rintro e w9 ⟨rfl, h⟩
    try dsimp only
    refine hK.out _ _ ?_ (fun hHeld => ?_)
    · intro _
      try dsimp only
      exact ⟨h, KC.out _ h⟩
    clear hK K
    try simp only [Act.put, List.setIfInBounds_toArray, List.set_cons_zero, List.set_cons_succ]
    have hHeld := hHeld (by kernel_rfl)
    refine wpAnyG_pure (i := 30) (oi := { dst := some 55, op := Op.pick (Operand.tmp 51) (Operand.tmp 54) (Operand.const (Value.bool false)), type := 4, pos := _, after := #[{ on := 26, ground := Ground.data }, { on := 29, ground := Ground.data }], guard := none }) (v := ?_) rfl (by kernel_rfl) (by kernel_rfl) (by kernel_rfl) (by kernel_rfl) (fun _ _ _ h => h) (Or.inl ⟨by rfl, ?_⟩) (fun _ => by assumption) ?_
    rotate_left
    · intro w hSw
      try dsimp only at hSw
      go_simp
      try with_reducible rfl
    try simp only [Act.put, List.setIfInBounds_toArray, List.set_cons_zero, List.set_cons_succ]
    refine wpAnyG_pure (i := 31) (oi := { dst := some 56, op := Op.move (Operand.tmp 55), type := 4, pos := _, after := #[{ on := 30, ground := Ground.data }, { on := 29, ground := Ground.chain }], guard := none }) (v := ?_) rfl (by kernel_rfl) (by kernel_rfl) (by kernel_rfl) (by kernel_rfl) (fun _ _ _ h => h) (Or.inl ⟨by rfl, ?_⟩) (fun _ => by assumption) ?_
    rotate_left
    · intro w hSw
      try dsimp only at hSw
      go_simp
      try with_reducible rfl
    try simp only [Act.put, List.setIfInBounds_toArray, List.set_cons_zero, List.set_cons_succ]
    refine wpAnyG_pure (i := 32) (oi := { dst := some 57, op := Op.move (Operand.tmp 7), type := 3, pos := _, after := #[{ on := 31, ground := Ground.guard }], guard := some (31, true) }) (v := ?_) rfl (by kernel_rfl) (by kernel_rfl) (by kernel_rfl) (by kernel_rfl) (fun _ _ _ h => h) (Or.inl ⟨by rfl, ?_⟩) (fun _ => by assumption) ?_
    rotate_left
    · intro w hSw
      try dsimp only at hSw
      go_simp
      try with_reducible rfl
    try simp only [Act.put, List.setIfInBounds_toArray, List.set_cons_zero, List.set_cons_succ]
    refine wpAnyG_pure (i := 33) (oi := { dst := some 58, op := Op.binOp BinOp.gtr 3 (Operand.tmp 57) (Operand.const (Value.int IntKind.i64 0)) 3, type := 4, pos := _, after := #[{ on := 32, ground := Ground.data }, { on := 31, ground := Ground.guard }], guard := some (31, true) }) (v := ?_) rfl (by kernel_rfl) (by kernel_rfl) (by kernel_rfl) (by kernel_rfl) (fun _ _ _ h => h) (Or.inl ⟨by rfl, ?_⟩) (fun _ => by assumption) ?_
    rotate_left
    · intro w hSw
      try dsimp only at hSw
      go_simp
      try with_reducible rfl
    try simp only [Act.put, List.setIfInBounds_toArray, List.set_cons_zero, List.set_cons_succ]
    refine wpAnyG_pure (i := 34) (oi := { dst := some 59, op := Op.move (Operand.tmp 58), type := 4, pos := _, after := #[{ on := 33, ground := Ground.data }, { on := 31, ground := Ground.chain }, { on := 31, ground := Ground.guard }], guard := some (31, true) }) (v := ?_) rfl (by kernel_rfl) (by kernel_rfl) (by kernel_rfl) (by kernel_rfl) (fun _ _ _ h => h) (Or.inl ⟨by rfl, ?_⟩) (fun _ => by assumption) ?_
    rotate_left
    · intro w hSw
      try dsimp only at hSw
      go_simp
      try with_reducible rfl
    try simp only [Act.put, List.setIfInBounds_toArray, List.set_cons_zero, List.set_cons_succ]
    refine wpAnyG_take (i := 35) (oi := { dst := some 60, op := Op.load 24 (Operand.tmp 4), type := 24, pos := _, after := #[{ on := 34, ground := Ground.guard }], guard := some (34, false) }) (v := ?_) rfl (by kernel_rfl) (by kernel_rfl) (by kernel_rfl) (by kernel_rfl) (fun _ _ _ h => h) (Or.inl ⟨by rfl, ?_⟩) (by assumption) ?_
    rotate_left
    · intro w hSw
      try dsimp only at hSw
      go_simp
      try with_reducible rfl
    try simp only [Act.put, List.setIfInBounds_toArray, List.set_cons_zero, List.set_cons_succ]
    refine wpAnyG_take (i := 36) (oi := { dst := some 61, op := Op.load 24 (Operand.tmp 5), type := 24, pos := _, after := #[{ on := 34, ground := Ground.guard }], guard := some (34, false) }) (v := ?_) rfl (by kernel_rfl) (by kernel_rfl) (by kernel_rfl) (by kernel_rfl) (fun _ _ _ h => h) (Or.inl ⟨by rfl, ?_⟩) (by assumption) ?_
    rotate_left
    · intro w hSw
      try dsimp only at hSw
      go_simp
      try with_reducible rfl
    try simp only [Act.put, List.setIfInBounds_toArray, List.set_cons_zero, List.set_cons_succ]
    refine wpAnyG_one (i := 37) (o := { dst := some 62, op := Op.call { callee := Callee.value (Operand.func 17), args := #[Operand.tmp 60, Operand.tmp 61], argTypes := #[24, 24] }, type := 3, pos := _, after := #[{ on := 35, ground := Ground.data }, { on := 36, ground := Ground.data }, { on := 34, ground := Ground.chain }, { on := 34, ground := Ground.guard }], guard := some (34, false) }) (by kernel_rfl) rfl (fun K hK => ?_)
    go_simp
    refine (KV.out _ hHeld.1).mono ?_
    rintro e w9 ⟨rfl, h⟩
    try dsimp only
    refine hK.out _ _ ?_ (fun hHeld => ?_)
    · intro _
      try dsimp only
      exact ⟨h, KC.out _ h⟩
    clear hK K
    try simp only [Act.put, List.setIfInBounds_toArray, List.set_cons_zero, List.set_cons_succ]
    have hHeld := hHeld (by kernel_rfl)
    refine wpAnyG_pure (i := 38) (oi := { dst := some 63, op := Op.binOp BinOp.gtr 3 (Operand.tmp 62) (Operand.const (Value.int IntKind.i64 0)) 3, type := 4, pos := _, after := #[{ on := 37, ground := Ground.data }, { on := 34, ground := Ground.guard }], guard := some (34, false) }) (v := ?_) rfl (by kernel_rfl) (by kernel_rfl) (by kernel_rfl) (by kernel_rfl) (fun _ _ _ h => h) (Or.inl ⟨by rfl, ?_⟩) (fun _ => by assumption) ?_
    rotate_left
    · intro w hSw
      try dsimp only at hSw
      go_simp
      try with_reducible rfl
    try simp only [Act.put, List.setIfInBounds_toArray, List.set_cons_zero, List.set_cons_succ]
    refine wpAnyG_pure (i := 39) (oi := { dst := some 64, op := Op.pick (Operand.tmp 59) (Operand.const (Value.bool true)) (Operand.tmp 63), type := 4, pos := _, after := #[{ on := 34, ground := Ground.data }, { on := 38, ground := Ground.data }, { on := 31, ground := Ground.guard }], guard := some (31, true) }) (v := ?_) rfl (by kernel_rfl) (by kernel_rfl) (by kernel_rfl) (by kernel_rfl) (fun _ _ _ h => h) (Or.inl ⟨by rfl, ?_⟩) (fun _ => by assumption) ?_
    rotate_left
    · intro w hSw
      try dsimp only at hSw
      go_simp
      try with_reducible rfl
    try simp only [Act.put, List.setIfInBounds_toArray, List.set_cons_zero, List.set_cons_succ]
    refine wpAnyG_pure (i := 40) (oi := { dst := some 65, op := Op.move (Operand.tmp 64), type := 4, pos := _, after := #[{ on := 39, ground := Ground.data }, { on := 37, ground := Ground.chain }, { on := 31, ground := Ground.guard }], guard := some (31, true) }) (v := ?_) rfl (by kernel_rfl) (by kernel_rfl) (by kernel_rfl) (by kernel_rfl) (fun _ _ _ h => h) (Or.inl ⟨by rfl, ?_⟩) (fun _ => by assumption) ?_
    rotate_left
    · intro w hSw
      try dsimp only at hSw
      go_simp
      try with_reducible rfl
    try simp only [Act.put, List.setIfInBounds_toArray, List.set_cons_zero, List.set_cons_succ]
    refine wpAnyG_pure (i := 41) (oi := { dst := some 66, op := Op.load 24 (Operand.tmp 3), type := 24, pos := _, after := #[{ on := 40, ground := Ground.guard }], guard := some (40, false) }) (v := undef) rfl (by kernel_rfl) (by kernel_rfl) (by kernel_rfl) (by kernel_rfl) (fun _ _ _ h => h) (Or.inr ⟨by rfl, rfl⟩) (fun _ => by assumption) ?_
    try simp only [Act.put, List.setIfInBounds_toArray, List.set_cons_zero, List.set_cons_succ]
    refine wpAnyG_pure (i := 42) (oi := { dst := some 67, op := Op.load 24 (Operand.tmp 5), type := 24, pos := _, after := #[{ on := 40, ground := Ground.guard }], guard := some (40, false) }) (v := undef) rfl (by kernel_rfl) (by kernel_rfl) (by kernel_rfl) (by kernel_rfl) (fun _ _ _ h => h) (Or.inr ⟨by rfl, rfl⟩) (fun _ => by assumption) ?_
    try simp only [Act.put, List.setIfInBounds_toArray, List.set_cons_zero, List.set_cons_succ]
    refine wpAnyG_pure (i := 43) (oi := { dst := some 68, op := Op.call { callee := Callee.value (Operand.func 17), args := #[Operand.tmp 66, Operand.tmp 67], argTypes := #[24, 24] }, type := 3, pos := _, after := #[{ on := 41, ground := Ground.data }, { on := 42, ground := Ground.data }, { on := 40, ground := Ground.chain }, { on := 40, ground := Ground.guard }], guard := some (40, false) }) (v := undef) rfl (by kernel_rfl) (by kernel_rfl) (by kernel_rfl) (by kernel_rfl) (fun _ _ _ h => h) (Or.inr ⟨by rfl, rfl⟩) (fun _ => by assumption) ?_
    try simp only [Act.put, List.setIfInBounds_toArray, List.set_cons_zero, List.set_cons_succ]
    refine wpAnyG_pure (i := 44) (oi := { dst := some 69, op := Op.binOp BinOp.leq 3 (Operand.tmp 68) (Operand.const (Value.int IntKind.i64 0)) 3, type := 4, pos := _, after := #[{ on := 43, ground := Ground.data }, { on := 40, ground := Ground.guard }], guard := some (40, false) }) (v := undef) rfl (by kernel_rfl) (by kernel_rfl) (by kernel_rfl) (by kernel_rfl) (fun _ _ _ h => h) (Or.inr ⟨by rfl, rfl⟩) (fun _ => by assumption) ?_
    try simp only [Act.put, List.setIfInBounds_toArray, List.set_cons_zero, List.set_cons_succ]
    refine wpAnyG_pure (i := 45) (oi := { dst := some 70, op := Op.pick (Operand.tmp 65) (Operand.const (Value.bool true)) (Operand.tmp 69), type := 4, pos := _, after := #[{ on := 40, ground := Ground.data }, { on := 44, ground := Ground.data }, { on := 31, ground := Ground.guard }], guard := some (31, true) }) (v := ?_) rfl (by kernel_rfl) (by kernel_rfl) (by kernel_rfl) (by kernel_rfl) (fun _ _ _ h => h) (Or.inl ⟨by rfl, ?_⟩) (fun _ => by assumption) ?_
    rotate_left
    · intro w hSw
      try dsimp only at hSw
      go_simp
      try with_reducible rfl
    try simp only [Act.put, List.setIfInBounds_toArray, List.set_cons_zero, List.set_cons_succ]
    refine wpAnyG_pure (i := 46) (oi := { dst := some 71, op := Op.pick (Operand.tmp 56) (Operand.tmp 70) (Operand.const (Value.bool false)), type := 4, pos := _, after := #[{ on := 31, ground := Ground.data }, { on := 45, ground := Ground.data }], guard := none }) (v := ?_) rfl (by kernel_rfl) (by kernel_rfl) (by kernel_rfl) (by kernel_rfl) (fun _ _ _ h => h) (Or.inl ⟨by rfl, ?_⟩) (fun _ => by assumption) ?_
    rotate_left
    · intro w hSw
      try dsimp only at hSw
      go_simp
      try with_reducible rfl
    try simp only [Act.put, List.setIfInBounds_toArray, List.set_cons_zero, List.set_cons_succ]
    refine wpAnyG_pure (i := 47) (oi := { dst := some 72, op := Op.move (Operand.tmp 71), type := 4, pos := _, after := #[{ on := 46, ground := Ground.data }, { on := 43, ground := Ground.chain }], guard := none }) (v := ?_) rfl (by kernel_rfl) (by kernel_rfl) (by kernel_rfl) (by kernel_rfl) (fun _ _ _ h => h) (Or.inl ⟨by rfl, ?_⟩) (fun _ => by assumption) ?_
    rotate_left
    · intro w hSw
      try dsimp only at hSw
      go_simp
      try with_reducible rfl
    try simp only [Act.put, List.setIfInBounds_toArray, List.set_cons_zero, List.set_cons_succ]
    refine wpAnyG_one (i := 48) (o := { dst := some 73, op := Op.call { callee := Callee.value (Operand.func 9), args := #[], argTypes := #[] }, type := 4, pos := _, after := #[{ on := 47, ground := Ground.chain }, { on := 47, ground := Ground.guard }], guard := some (47, true) }) (by kernel_rfl) rfl (fun K hK => ?_)
    go_simp
    refine (KZ.out _ hHeld.1).mono ?_
    rintro e w9 ⟨rfl, h⟩
    try dsimp only
    refine hK.out _ _ ?_ (fun hHeld => ?_)
    · intro _
      try dsimp only
      exact ⟨h, KC.out _ h⟩
    clear hK K
    try simp only [Act.put, List.setIfInBounds_toArray, List.set_cons_zero, List.set_cons_succ]
    have hHeld := hHeld (by kernel_rfl)
    refine wpAnyG_pure (i := 49) (oi := { dst := some 74, op := Op.pick (Operand.tmp 72) (Operand.tmp 73) (Operand.const (Value.bool false)), type := 4, pos := _, after := #[{ on := 47, ground := Ground.data }, { on := 48, ground := Ground.data }], guard := none }) (v := ?_) rfl (by kernel_rfl) (by kernel_rfl) (by kernel_rfl) (by kernel_rfl) (fun _ _ _ h => h) (Or.inl ⟨by rfl, ?_⟩) (fun _ => by assumption) ?_
    rotate_left
    · intro w hSw
      try dsimp only at hSw
      go_simp
      try with_reducible rfl
    try simp only [Act.put, List.setIfInBounds_toArray, List.set_cons_zero, List.set_cons_succ]
    refine wpAnyG_pure (i := 50) (oi := { dst := some 6, op := Op.assign (Operand.tmp 74), type := 4, pos := _, after := #[{ on := 49, ground := Ground.data }, { on := 48, ground := Ground.chain }, { on := 0, ground := Ground.phase }, { on := 1, ground := Ground.phase }, { on := 2, ground := Ground.phase }, { on := 3, ground := Ground.phase }, { on := 4, ground := Ground.phase }, { on := 5, ground := Ground.phase }, { on := 6, ground := Ground.phase }, { on := 7, ground := Ground.phase }, { on := 8, ground := Ground.phase }, { on := 9, ground := Ground.phase }, { on := 10, ground := Ground.phase }, { on := 11, ground := Ground.phase }, { on := 12, ground := Ground.phase }, { on := 13, ground := Ground.phase }, { on := 14, ground := Ground.phase }, { on := 15, ground := Ground.phase }, { on := 16, ground := Ground.phase }, { on := 17, ground := Ground.phase }, { on := 18, ground := Ground.phase }, { on := 19, ground := Ground.phase }, { on := 20, ground := Ground.phase }, { on := 21, ground := Ground.phase }, { on := 22, ground := Ground.phase }, { on := 23, ground := Ground.phase }, { on := 24, ground := Ground.phase }, { on := 25, ground := Ground.phase }, { on := 26, ground := Ground.phase }, { on := 27, ground := Ground.phase }, { on := 28, ground := Ground.phase }, { on := 29, ground := Ground.phase }, { on := 30, ground := Ground.phase }, { on := 31, ground := Ground.phase }, { on := 32, ground := Ground.phase }, { on := 33, ground := Ground.phase }, { on := 34, ground := Ground.phase }, { on := 35, ground := Ground.phase }, { on := 36, ground := Ground.phase }, { on := 37, ground := Ground.phase }, { on := 38, ground := Ground.phase }, { on := 39, ground := Ground.phase }, { on := 40, ground := Ground.phase }, { on := 41, ground := Ground.phase }, { on := 42, ground := Ground.phase }, { on := 43, ground := Ground.phase }, { on := 44, ground := Ground.phase }, { on := 45, ground := Ground.phase }, { on := 46, ground := Ground.phase }, { on := 47, ground := Ground.phase }, { on := 48, ground := Ground.phase }, { on := 49, ground := Ground.phase }], guard := none }) (v := ?_) rfl (by kernel_rfl) (by kernel_rfl) (by kernel_rfl) (by kernel_rfl) (fun _ _ _ h => h) (Or.inl ⟨by rfl, ?_⟩) (fun _ => by assumption) ?_
    rotate_left
    · intro w hSw
      try dsimp only at hSw
      go_simp
      try with_reducible rfl
    try simp only [Act.put, List.setIfInBounds_toArray, List.set_cons_zero, List.set_cons_succ]
    refine wpAnyG_done (by kernel_rfl) ?_ _
    refine NoPanic.normal ?_
    go_wp2_with fail
    go_ret
    exact ⟨rfl, next H5.out.below hHeld.1⟩
  · have j3 : (0 < z) = False := eq_false (of_decide_eq_false h3)
    have k3 := h3
    have j4 : (0 < y) = False := eq_false (of_decide_eq_false h4)
    have k4 := h4
    have j5 := of_decide_eq_true h5
    have k5 := h5
    clear h3 h4 h5
    go_wp2_with fail
    refine wp_region_noPanic ?_
    refine wp_heldG (fun W => Below w5.heap.size w5 W ∧ (W.cell? ⟨bx, 0, none⟩ = some (.slice Aa na ca) ∧ W.cell? ⟨bx, 1, none⟩ = some (.int .i64 va) ∧ W.cell? ⟨bx, 2, none⟩ = some (.int .i64 ea) ∧ W.cell? ⟨bx, 3, none⟩ = some (.slice Ba ma da)) ∧ (W.cell? ⟨bx + 1, 0, none⟩ = some (.slice Ab nb cb) ∧ W.cell? ⟨bx + 1, 1, none⟩ = some (.int .i64 vb) ∧ W.cell? ⟨bx + 1, 2, none⟩ = some (.int .i64 eb) ∧ W.cell? ⟨bx + 1, 3, none⟩ = some (.slice Bb mb db)) ∧ (W.cell? ⟨bx + 1 + 1, 0, none⟩ = some (.slice Ac nc cc) ∧ W.cell? ⟨bx + 1 + 1, 1, none⟩ = some (.int .i64 vc) ∧ W.cell? ⟨bx + 1 + 1, 2, none⟩ = some (.int .i64 ec) ∧ W.cell? ⟨bx + 1 + 1, 3, none⟩ = some (.slice Bc mc dc))) [] (by kernel_rfl) ?hs0 ?rg0
    case hs0 =>
      exact ⟨H6, KC.out _ H6⟩
    case rg0 =>
    intro hHeld
    refine wpAnyG_pure (i := 0) (oi := { dst := some 25, op := Op.move (Operand.tmp 7), type := 3, pos := _, after := #[], guard := none }) (v := ?_) rfl (by kernel_rfl) (by kernel_rfl) (by kernel_rfl) (by kernel_rfl) (fun _ _ _ h => h) (Or.inl ⟨by rfl, ?_⟩) (fun _ => by assumption) ?_
    rotate_left
    · intro w hSw
      try dsimp only at hSw
      go_simp
      try with_reducible rfl
    try simp only [Act.put, List.setIfInBounds_toArray, List.set_cons_zero, List.set_cons_succ]
    refine wpAnyG_take (i := 1) (oi := { dst := some 26, op := Op.load 24 (Operand.tmp 3), type := 24, pos := _, after := #[], guard := none }) (v := ?_) rfl (by kernel_rfl) (by kernel_rfl) (by kernel_rfl) (by kernel_rfl) (fun _ _ _ h => h) (Or.inl ⟨by rfl, ?_⟩) (by assumption) ?_
    rotate_left
    · intro w hSw
      try dsimp only at hSw
      go_simp
      try with_reducible rfl
    try simp only [Act.put, List.setIfInBounds_toArray, List.set_cons_zero, List.set_cons_succ]
    refine wpAnyG_take (i := 3) (oi := { dst := some 28, op := Op.load 24 (Operand.tmp 4), type := 24, pos := _, after := #[], guard := none }) (v := ?_) rfl (by kernel_rfl) (by kernel_rfl) (by kernel_rfl) (by kernel_rfl) (fun _ _ _ h => h) (Or.inl ⟨by rfl, ?_⟩) (by assumption) ?_
    rotate_left
    · intro w hSw
      try dsimp only at hSw
      go_simp
      try with_reducible rfl
    try simp only [Act.put, List.setIfInBounds_toArray, List.set_cons_zero, List.set_cons_succ]
    refine wpAnyG_one (i := 2) (o := { dst := some 27, op := Op.call { callee := Callee.value (Operand.func 12), args := #[Operand.tmp 26], argTypes := #[24] }, type := 31, pos := _, after := #[{ on := 1, ground := Ground.data }], guard := none }) (by kernel_rfl) rfl (fun K hK => ?_)
    go_simp
    refine (KPa.out _ hHeld.1).mono ?_
    rintro e w9 ⟨rfl, h⟩
    try dsimp only
    refine hK.out _ _ ?_ (fun hHeld => ?_)
    · intro _
      try dsimp only
      exact ⟨h, KC.out _ h⟩
    clear hK K
    try simp only [Act.put, List.setIfInBounds_toArray, List.set_cons_zero, List.set_cons_succ]
    have hHeld := hHeld (by kernel_rfl)
    refine wpAnyG_one (i := 4) (o := { dst := some 29, op := Op.call { callee := Callee.value (Operand.func 12), args := #[Operand.tmp 28], argTypes := #[24] }, type := 31, pos := _, after := #[{ on := 3, ground := Ground.data }, { on := 2, ground := Ground.chain }], guard := none }) (by kernel_rfl) rfl (fun K hK => ?_)
    go_simp
    refine (KPb.out _ hHeld.1).mono ?_
    rintro e w9 ⟨rfl, h⟩
    try dsimp only
    refine hK.out _ _ ?_ (fun hHeld => ?_)
    · intro _
      try dsimp only
      exact ⟨h, KC.out _ h⟩
    clear hK K
    try simp only [Act.put, List.setIfInBounds_toArray, List.set_cons_zero, List.set_cons_succ]
    have hHeld := hHeld (by kernel_rfl)
    refine wpAnyG_one (i := 5) (o := { dst := some 30, op := Op.call { callee := Callee.value (Operand.func 18), args := #[Operand.tmp 27, Operand.tmp 29], argTypes := #[31, 31] }, type := 3, pos := _, after := #[{ on := 2, ground := Ground.data }, { on := 4, ground := Ground.data }, { on := 4, ground := Ground.chain }], guard := none }) (by kernel_rfl) rfl (fun K hK => ?_)
    go_simp
    refine (KR.out _ hHeld.1).mono ?_
    rintro e w9 ⟨rfl, h⟩
    try dsimp only
    refine hK.out _ _ ?_ (fun hHeld => ?_)
    · intro _
      try dsimp only
      exact ⟨h, KC.out _ h⟩
    clear hK K
    try simp only [Act.put, List.setIfInBounds_toArray, List.set_cons_zero, List.set_cons_succ]
    have hHeld := hHeld (by kernel_rfl)
    refine wpAnyG_pure (i := 6) (oi := { dst := some 31, op := Op.binOp BinOp.eql 3 (Operand.tmp 25) (Operand.tmp 30) 3, type := 4, pos := _, after := #[{ on := 0, ground := Ground.data }, { on := 5, ground := Ground.data }], guard := none }) (v := ?_) rfl (by kernel_rfl) (by kernel_rfl) (by kernel_rfl) (by kernel_rfl) (fun _ _ _ h => h) (Or.inl ⟨by rfl, ?_⟩) (fun _ => by assumption) ?_
    rotate_left
    · intro w hSw
      try dsimp only at hSw
      go_simp
      try with_reducible rfl
    try simp only [Act.put, List.setIfInBounds_toArray, List.set_cons_zero, List.set_cons_succ]
    refine wpAnyG_pure (i := 7) (oi := { dst := some 32, op := Op.move (Operand.tmp 31), type := 4, pos := _, after := #[{ on := 6, ground := Ground.data }, { on := 5, ground := Ground.chain }], guard := none }) (v := ?_) rfl (by kernel_rfl) (by kernel_rfl) (by kernel_rfl) (by kernel_rfl) (fun _ _ _ h => h) (Or.inl ⟨by rfl, ?_⟩) (fun _ => by assumption) ?_
    rotate_left
    · intro w hSw
      try dsimp only at hSw
      go_simp
      try with_reducible rfl
    try simp only [Act.put, List.setIfInBounds_toArray, List.set_cons_zero, List.set_cons_succ]
    refine wpAnyG_pure (i := 8) (oi := { dst := some 33, op := Op.move (Operand.tmp 7), type := 3, pos := _, after := #[{ on := 7, ground := Ground.guard }], guard := some (7, true) }) (v := ?_) rfl (by kernel_rfl) (by kernel_rfl) (by kernel_rfl) (by kernel_rfl) (fun _ _ _ h => h) (Or.inl ⟨by rfl, ?_⟩) (fun _ => by assumption) ?_
    rotate_left
    · intro w hSw
      try dsimp only at hSw
      go_simp
      try with_reducible rfl
    try simp only [Act.put, List.setIfInBounds_toArray, List.set_cons_zero, List.set_cons_succ]
    refine wpAnyG_take (i := 9) (oi := { dst := some 34, op := Op.load 24 (Operand.tmp 4), type := 24, pos := _, after := #[{ on := 7, ground := Ground.guard }], guard := some (7, true) }) (v := ?_) rfl (by kernel_rfl) (by kernel_rfl) (by kernel_rfl) (by kernel_rfl) (fun _ _ _ h => h) (Or.inl ⟨by rfl, ?_⟩) (by assumption) ?_
    rotate_left
    · intro w hSw
      try dsimp only at hSw
      go_simp
      try with_reducible rfl
    try simp only [Act.put, List.setIfInBounds_toArray, List.set_cons_zero, List.set_cons_succ]
    refine wpAnyG_take (i := 10) (oi := { dst := some 35, op := Op.load 24 (Operand.tmp 3), type := 24, pos := _, after := #[{ on := 7, ground := Ground.guard }], guard := some (7, true) }) (v := ?_) rfl (by kernel_rfl) (by kernel_rfl) (by kernel_rfl) (by kernel_rfl) (fun _ _ _ h => h) (Or.inl ⟨by rfl, ?_⟩) (by assumption) ?_
    rotate_left
    · intro w hSw
      try dsimp only at hSw
      go_simp
      try with_reducible rfl
    try simp only [Act.put, List.setIfInBounds_toArray, List.set_cons_zero, List.set_cons_succ]
    refine wpAnyG_one (i := 11) (o := { dst := some 36, op := Op.call { callee := Callee.value (Operand.func 17), args := #[Operand.tmp 34, Operand.tmp 35], argTypes := #[24, 24] }, type := 3, pos := _, after := #[{ on := 9, ground := Ground.data }, { on := 10, ground := Ground.data }, { on := 7, ground := Ground.chain }, { on := 7, ground := Ground.guard }], guard := some (7, true) }) (by kernel_rfl) rfl (fun K hK => ?_)
    go_simp
    refine (KB.out _ hHeld.1).mono ?_
    rintro e w9 ⟨rfl, h⟩
    try dsimp only
    refine hK.out _ _ ?_ (fun hHeld => ?_)
    · intro _
      try dsimp only
      exact ⟨h, KC.out _ h⟩
    clear hK K
    try simp only [Act.put, List.setIfInBounds_toArray, List.set_cons_zero, List.set_cons_succ]
    have hHeld := hHeld (by kernel_rfl)
    refine wpAnyG_pure (i := 12) (oi := { dst := some 37, op := Op.unOp UnOp.neg 3 (Operand.tmp 36), type := 3, pos := _, after := #[{ on := 11, ground := Ground.data }, { on := 7, ground := Ground.guard }], guard := some (7, true) }) (v := ?_) rfl (by kernel_rfl) (by kernel_rfl) (by kernel_rfl) (by kernel_rfl) (fun _ _ _ h => h) (Or.inl ⟨by rfl, ?_⟩) (fun _ => by assumption) ?_
    rotate_left
    · intro w hSw
      try dsimp only at hSw
      go_simp
      try with_reducible rfl
    try simp only [Act.put, List.setIfInBounds_toArray, List.set_cons_zero, List.set_cons_succ]
    refine wpAnyG_pure (i := 13) (oi := { dst := some 38, op := Op.binOp BinOp.eql 3 (Operand.tmp 33) (Operand.tmp 37) 3, type := 4, pos := _, after := #[{ on := 8, ground := Ground.data }, { on := 12, ground := Ground.data }, { on := 7, ground := Ground.guard }], guard := some (7, true) }) (v := ?_) rfl (by kernel_rfl) (by kernel_rfl) (by kernel_rfl) (by kernel_rfl) (fun _ _ _ h => h) (Or.inl ⟨by rfl, ?_⟩) (fun _ => by assumption) ?_
    rotate_left
    · intro w hSw
      try dsimp only at hSw
      go_simp
      try with_reducible rfl
    try simp only [Act.put, List.setIfInBounds_toArray, List.set_cons_zero, List.set_cons_succ]
    refine wpAnyG_pure (i := 14) (oi := { dst := some 39, op := Op.pick (Operand.tmp 32) (Operand.tmp 38) (Operand.const (Value.bool false)), type := 4, pos := _, after := #[{ on := 7, ground := Ground.data }, { on := 13, ground := Ground.data }], guard := none }) (v := ?_) rfl (by kernel_rfl) (by kernel_rfl) (by kernel_rfl) (by kernel_rfl) (fun _ _ _ h => h) (Or.inl ⟨by rfl, ?_⟩) (fun _ => by assumption) ?_
    rotate_left
    · intro w hSw
      try dsimp only at hSw
      go_simp
      try with_reducible rfl
    try simp only [Act.put, List.setIfInBounds_toArray, List.set_cons_zero, List.set_cons_succ]
    refine wpAnyG_pure (i := 15) (oi := { dst := some 40, op := Op.move (Operand.tmp 39), type := 4, pos := _, after := #[{ on := 14, ground := Ground.data }, { on := 11, ground := Ground.chain }], guard := none }) (v := ?_) rfl (by kernel_rfl) (by kernel_rfl) (by kernel_rfl) (by kernel_rfl) (fun _ _ _ h => h) (Or.inl ⟨by rfl, ?_⟩) (fun _ => by assumption) ?_
    rotate_left
    · intro w hSw
      try dsimp only at hSw
      go_simp
      try with_reducible rfl
    try simp only [Act.put, List.setIfInBounds_toArray, List.set_cons_zero, List.set_cons_succ]
    refine wpAnyG_take (i := 16) (oi := { dst := some 41, op := Op.load 24 (Operand.tmp 3), type := 24, pos := _, after := #[{ on := 15, ground := Ground.guard }], guard := some (15, true) }) (v := ?_) rfl (by kernel_rfl) (by kernel_rfl) (by kernel_rfl) (by kernel_rfl) (fun _ _ _ h => h) (Or.inl ⟨by rfl, ?_⟩) (by assumption) ?_
    rotate_left
    · intro w hSw
      try dsimp only at hSw
      go_simp
      try with_reducible rfl
    try simp only [Act.put, List.setIfInBounds_toArray, List.set_cons_zero, List.set_cons_succ]
    refine wpAnyG_take (i := 17) (oi := { dst := some 42, op := Op.load 24 (Operand.tmp 4), type := 24, pos := _, after := #[{ on := 15, ground := Ground.guard }], guard := some (15, true) }) (v := ?_) rfl (by kernel_rfl) (by kernel_rfl) (by kernel_rfl) (by kernel_rfl) (fun _ _ _ h => h) (Or.inl ⟨by rfl, ?_⟩) (by assumption) ?_
    rotate_left
    · intro w hSw
      try dsimp only at hSw
      go_simp
      try with_reducible rfl
    try simp only [Act.put, List.setIfInBounds_toArray, List.set_cons_zero, List.set_cons_succ]
    refine wpAnyG_take (i := 19) (oi := { dst := some 44, op := Op.load 24 (Operand.tmp 3), type := 24, pos := _, after := #[{ on := 15, ground := Ground.guard }], guard := some (15, true) }) (v := ?_) rfl (by kernel_rfl) (by kernel_rfl) (by kernel_rfl) (by kernel_rfl) (fun _ _ _ h => h) (Or.inl ⟨by rfl, ?_⟩) (by assumption) ?_
    rotate_left
    · intro w hSw
      try dsimp only at hSw
      go_simp
      try with_reducible rfl
    try simp only [Act.put, List.setIfInBounds_toArray, List.set_cons_zero, List.set_cons_succ]
    refine wpAnyG_take (i := 21) (oi := { dst := some 46, op := Op.load 24 (Operand.tmp 4), type := 24, pos := _, after := #[{ on := 15, ground := Ground.guard }], guard := some (15, true) }) (v := ?_) rfl (by kernel_rfl) (by kernel_rfl) (by kernel_rfl) (by kernel_rfl) (fun _ _ _ h => h) (Or.inl ⟨by rfl, ?_⟩) (by assumption) ?_
    rotate_left
    · intro w hSw
      try dsimp only at hSw
      go_simp
      try with_reducible rfl
    try simp only [Act.put, List.setIfInBounds_toArray, List.set_cons_zero, List.set_cons_succ]
    refine wpAnyG_one (i := 18) (o := { dst := some 43, op := Op.call { callee := Callee.value (Operand.func 19), args := #[Operand.tmp 41, Operand.tmp 42], argTypes := #[24, 24] }, type := 4, pos := _, after := #[{ on := 16, ground := Ground.data }, { on := 17, ground := Ground.data }, { on := 15, ground := Ground.chain }, { on := 15, ground := Ground.guard }], guard := some (15, true) }) (by kernel_rfl) rfl (fun K hK => ?_)
    go_simp
    refine (KS.out _ hHeld.1).mono ?_
    rintro e w9 ⟨rfl, h⟩
    try dsimp only
    refine hK.out _ _ ?_ (fun hHeld => ?_)
    · intro _
      try dsimp only
      exact ⟨h, KC.out _ h⟩
    clear hK K
    try simp only [Act.put, List.setIfInBounds_toArray, List.set_cons_zero, List.set_cons_succ]
    have hHeld := hHeld (by kernel_rfl)
    refine wpAnyG_one (i := 20) (o := { dst := some 45, op := Op.call { callee := Callee.value (Operand.func 12), args := #[Operand.tmp 44], argTypes := #[24] }, type := 31, pos := _, after := #[{ on := 19, ground := Ground.data }, { on := 18, ground := Ground.chain }, { on := 15, ground := Ground.guard }], guard := some (15, true) }) (by kernel_rfl) rfl (fun K hK => ?_)
    go_simp
    refine (KPa.out _ hHeld.1).mono ?_
    rintro e w9 ⟨rfl, h⟩
    try dsimp only
    refine hK.out _ _ ?_ (fun hHeld => ?_)
    · intro _
      try dsimp only
      exact ⟨h, KC.out _ h⟩
    clear hK K
    try simp only [Act.put, List.setIfInBounds_toArray, List.set_cons_zero, List.set_cons_succ]
    have hHeld := hHeld (by kernel_rfl)
    refine wpAnyG_one (i := 22) (o := { dst := some 47, op := Op.call { callee := Callee.value (Operand.func 12), args := #[Operand.tmp 46], argTypes := #[24] }, type := 31, pos := _, after := #[{ on := 21, ground := Ground.data }, { on := 20, ground := Ground.chain }, { on := 15, ground := Ground.guard }], guard := some (15, true) }) (by kernel_rfl) rfl (fun K hK => ?_)
    go_simp
    refine (KPb.out _ hHeld.1).mono ?_
    rintro e w9 ⟨rfl, h⟩
    try dsimp only
    refine hK.out _ _ ?_ (fun hHeld => ?_)
    · intro _
      try dsimp only
      exact ⟨h, KC.out _ h⟩
    clear hK K
    try simp only [Act.put, List.setIfInBounds_toArray, List.set_cons_zero, List.set_cons_succ]
    have hHeld := hHeld (by kernel_rfl)
    refine wpAnyG_one (i := 23) (o := { dst := some 48, op := Op.call { callee := Callee.value (Operand.func 16), args := #[Operand.tmp 45, Operand.tmp 47], argTypes := #[31, 31] }, type := 4, pos := _, after := #[{ on := 20, ground := Ground.data }, { on := 22, ground := Ground.data }, { on := 22, ground := Ground.chain }, { on := 15, ground := Ground.guard }], guard := some (15, true) }) (by kernel_rfl) rfl (fun K hK => ?_)
    go_simp
    refine (KT.out _ hHeld.1).mono ?_
    rintro e w9 ⟨rfl, h⟩
    try dsimp only
    refine hK.out _ _ ?_ (fun hHeld => ?_)
    · intro _
      try dsimp only
      exact ⟨h, KC.out _ h⟩
    clear hK K
    try simp only [Act.put, List.setIfInBounds_toArray, List.set_cons_zero, List.set_cons_succ]
    have hHeld := hHeld (by kernel_rfl)
    refine wpAnyG_pure (i := 24) (oi := { dst := some 49, op := Op.binOp BinOp.eql 4 (Operand.tmp 43) (Operand.tmp 48) 4, type := 4, pos := _, after := #[{ on := 18, ground := Ground.data }, { on := 23, ground := Ground.data }, { on := 15, ground := Ground.guard }], guard := some (15, true) }) (v := ?_) rfl (by kernel_rfl) (by kernel_rfl) (by kernel_rfl) (by kernel_rfl) (fun _ _ _ h => h) (Or.inl ⟨by rfl, ?_⟩) (fun _ => by assumption) ?_
    rotate_left
    · intro w hSw
      try dsimp only at hSw
      go_simp
      try with_reducible rfl
    try simp only [Act.put, List.setIfInBounds_toArray, List.set_cons_zero, List.set_cons_succ]
    refine wpAnyG_pure (i := 25) (oi := { dst := some 50, op := Op.pick (Operand.tmp 40) (Operand.tmp 49) (Operand.const (Value.bool false)), type := 4, pos := _, after := #[{ on := 15, ground := Ground.data }, { on := 24, ground := Ground.data }], guard := none }) (v := ?_) rfl (by kernel_rfl) (by kernel_rfl) (by kernel_rfl) (by kernel_rfl) (fun _ _ _ h => h) (Or.inl ⟨by rfl, ?_⟩) (fun _ => by assumption) ?_
    rotate_left
    · intro w hSw
      try dsimp only at hSw
      go_simp
      try with_reducible rfl
    try simp only [Act.put, List.setIfInBounds_toArray, List.set_cons_zero, List.set_cons_succ]
    refine wpAnyG_pure (i := 26) (oi := { dst := some 51, op := Op.move (Operand.tmp 50), type := 4, pos := _, after := #[{ on := 25, ground := Ground.data }, { on := 23, ground := Ground.chain }], guard := none }) (v := ?_) rfl (by kernel_rfl) (by kernel_rfl) (by kernel_rfl) (by kernel_rfl) (fun _ _ _ h => h) (Or.inl ⟨by rfl, ?_⟩) (fun _ => by assumption) ?_
    rotate_left
    · intro w hSw
      try dsimp only at hSw
      go_simp
      try with_reducible rfl
    try simp only [Act.put, List.setIfInBounds_toArray, List.set_cons_zero, List.set_cons_succ]
    refine wpAnyG_take (i := 27) (oi := { dst := some 52, op := Op.load 24 (Operand.tmp 3), type := 24, pos := _, after := #[{ on := 26, ground := Ground.guard }], guard := some (26, true) }) (v := ?_) rfl (by kernel_rfl) (by kernel_rfl) (by kernel_rfl) (by kernel_rfl) (fun _ _ _ h => h) (Or.inl ⟨by rfl, ?_⟩) (by assumption) ?_
    rotate_left
    · intro w hSw
      try dsimp only at hSw
      go_simp
      try with_reducible rfl
    try simp only [Act.put, List.setIfInBounds_toArray, List.set_cons_zero, List.set_cons_succ]
    refine wpAnyG_take (i := 28) (oi := { dst := some 53, op := Op.load 24 (Operand.tmp 3), type := 24, pos := _, after := #[{ on := 26, ground := Ground.guard }], guard := some (26, true) }) (v := ?_) rfl (by kernel_rfl) (by kernel_rfl) (by kernel_rfl) (by kernel_rfl) (fun _ _ _ h => h) (Or.inl ⟨by rfl, ?_⟩) (by assumption) ?_
    rotate_left
    · intro w hSw
      try dsimp only at hSw
      go_simp
      try with_reducible rfl
    try simp only [Act.put, List.setIfInBounds_toArray, List.set_cons_zero, List.set_cons_succ]
    refine wpAnyG_one (i := 29) (o := { dst := some 54, op := Op.call { callee := Callee.value (Operand.func 19), args := #[Operand.tmp 52, Operand.tmp 53], argTypes := #[24, 24] }, type := 4, pos := _, after := #[{ on := 27, ground := Ground.data }, { on := 28, ground := Ground.data }, { on := 26, ground := Ground.chain }, { on := 26, ground := Ground.guard }], guard := some (26, true) }) (by kernel_rfl) rfl (fun K hK => ?_)
    go_simp
    refine (KU.out _ hHeld.1).mono ?_
    rintro e w9 ⟨rfl, h⟩
    try dsimp only
    refine hK.out _ _ ?_ (fun hHeld => ?_)
    · intro _
      try dsimp only
      exact ⟨h, KC.out _ h⟩
    clear hK K
    try simp only [Act.put, List.setIfInBounds_toArray, List.set_cons_zero, List.set_cons_succ]
    have hHeld := hHeld (by kernel_rfl)
    refine wpAnyG_pure (i := 30) (oi := { dst := some 55, op := Op.pick (Operand.tmp 51) (Operand.tmp 54) (Operand.const (Value.bool false)), type := 4, pos := _, after := #[{ on := 26, ground := Ground.data }, { on := 29, ground := Ground.data }], guard := none }) (v := ?_) rfl (by kernel_rfl) (by kernel_rfl) (by kernel_rfl) (by kernel_rfl) (fun _ _ _ h => h) (Or.inl ⟨by rfl, ?_⟩) (fun _ => by assumption) ?_
    rotate_left
    · intro w hSw
      try dsimp only at hSw
      go_simp
      try with_reducible rfl
    try simp only [Act.put, List.setIfInBounds_toArray, List.set_cons_zero, List.set_cons_succ]
    refine wpAnyG_pure (i := 31) (oi := { dst := some 56, op := Op.move (Operand.tmp 55), type := 4, pos := _, after := #[{ on := 30, ground := Ground.data }, { on := 29, ground := Ground.chain }], guard := none }) (v := ?_) rfl (by kernel_rfl) (by kernel_rfl) (by kernel_rfl) (by kernel_rfl) (fun _ _ _ h => h) (Or.inl ⟨by rfl, ?_⟩) (fun _ => by assumption) ?_
    rotate_left
    · intro w hSw
      try dsimp only at hSw
      go_simp
      try with_reducible rfl
    try simp only [Act.put, List.setIfInBounds_toArray, List.set_cons_zero, List.set_cons_succ]
    refine wpAnyG_pure (i := 32) (oi := { dst := some 57, op := Op.move (Operand.tmp 7), type := 3, pos := _, after := #[{ on := 31, ground := Ground.guard }], guard := some (31, true) }) (v := ?_) rfl (by kernel_rfl) (by kernel_rfl) (by kernel_rfl) (by kernel_rfl) (fun _ _ _ h => h) (Or.inl ⟨by rfl, ?_⟩) (fun _ => by assumption) ?_
    rotate_left
    · intro w hSw
      try dsimp only at hSw
      go_simp
      try with_reducible rfl
    try simp only [Act.put, List.setIfInBounds_toArray, List.set_cons_zero, List.set_cons_succ]
    refine wpAnyG_pure (i := 33) (oi := { dst := some 58, op := Op.binOp BinOp.gtr 3 (Operand.tmp 57) (Operand.const (Value.int IntKind.i64 0)) 3, type := 4, pos := _, after := #[{ on := 32, ground := Ground.data }, { on := 31, ground := Ground.guard }], guard := some (31, true) }) (v := ?_) rfl (by kernel_rfl) (by kernel_rfl) (by kernel_rfl) (by kernel_rfl) (fun _ _ _ h => h) (Or.inl ⟨by rfl, ?_⟩) (fun _ => by assumption) ?_
    rotate_left
    · intro w hSw
      try dsimp only at hSw
      go_simp
      try with_reducible rfl
    try simp only [Act.put, List.setIfInBounds_toArray, List.set_cons_zero, List.set_cons_succ]
    refine wpAnyG_pure (i := 34) (oi := { dst := some 59, op := Op.move (Operand.tmp 58), type := 4, pos := _, after := #[{ on := 33, ground := Ground.data }, { on := 31, ground := Ground.chain }, { on := 31, ground := Ground.guard }], guard := some (31, true) }) (v := ?_) rfl (by kernel_rfl) (by kernel_rfl) (by kernel_rfl) (by kernel_rfl) (fun _ _ _ h => h) (Or.inl ⟨by rfl, ?_⟩) (fun _ => by assumption) ?_
    rotate_left
    · intro w hSw
      try dsimp only at hSw
      go_simp
      try with_reducible rfl
    try simp only [Act.put, List.setIfInBounds_toArray, List.set_cons_zero, List.set_cons_succ]
    refine wpAnyG_take (i := 35) (oi := { dst := some 60, op := Op.load 24 (Operand.tmp 4), type := 24, pos := _, after := #[{ on := 34, ground := Ground.guard }], guard := some (34, false) }) (v := ?_) rfl (by kernel_rfl) (by kernel_rfl) (by kernel_rfl) (by kernel_rfl) (fun _ _ _ h => h) (Or.inl ⟨by rfl, ?_⟩) (by assumption) ?_
    rotate_left
    · intro w hSw
      try dsimp only at hSw
      go_simp
      try with_reducible rfl
    try simp only [Act.put, List.setIfInBounds_toArray, List.set_cons_zero, List.set_cons_succ]
    refine wpAnyG_take (i := 36) (oi := { dst := some 61, op := Op.load 24 (Operand.tmp 5), type := 24, pos := _, after := #[{ on := 34, ground := Ground.guard }], guard := some (34, false) }) (v := ?_) rfl (by kernel_rfl) (by kernel_rfl) (by kernel_rfl) (by kernel_rfl) (fun _ _ _ h => h) (Or.inl ⟨by rfl, ?_⟩) (by assumption) ?_
    rotate_left
    · intro w hSw
      try dsimp only at hSw
      go_simp
      try with_reducible rfl
    try simp only [Act.put, List.setIfInBounds_toArray, List.set_cons_zero, List.set_cons_succ]
    refine wpAnyG_one (i := 37) (o := { dst := some 62, op := Op.call { callee := Callee.value (Operand.func 17), args := #[Operand.tmp 60, Operand.tmp 61], argTypes := #[24, 24] }, type := 3, pos := _, after := #[{ on := 35, ground := Ground.data }, { on := 36, ground := Ground.data }, { on := 34, ground := Ground.chain }, { on := 34, ground := Ground.guard }], guard := some (34, false) }) (by kernel_rfl) rfl (fun K hK => ?_)
    go_simp
    refine (KV.out _ hHeld.1).mono ?_
    rintro e w9 ⟨rfl, h⟩
    try dsimp only
    refine hK.out _ _ ?_ (fun hHeld => ?_)
    · intro _
      try dsimp only
      exact ⟨h, KC.out _ h⟩
    clear hK K
    try simp only [Act.put, List.setIfInBounds_toArray, List.set_cons_zero, List.set_cons_succ]
    have hHeld := hHeld (by kernel_rfl)
    refine wpAnyG_pure (i := 38) (oi := { dst := some 63, op := Op.binOp BinOp.gtr 3 (Operand.tmp 62) (Operand.const (Value.int IntKind.i64 0)) 3, type := 4, pos := _, after := #[{ on := 37, ground := Ground.data }, { on := 34, ground := Ground.guard }], guard := some (34, false) }) (v := ?_) rfl (by kernel_rfl) (by kernel_rfl) (by kernel_rfl) (by kernel_rfl) (fun _ _ _ h => h) (Or.inl ⟨by rfl, ?_⟩) (fun _ => by assumption) ?_
    rotate_left
    · intro w hSw
      try dsimp only at hSw
      go_simp
      try with_reducible rfl
    try simp only [Act.put, List.setIfInBounds_toArray, List.set_cons_zero, List.set_cons_succ]
    refine wpAnyG_pure (i := 39) (oi := { dst := some 64, op := Op.pick (Operand.tmp 59) (Operand.const (Value.bool true)) (Operand.tmp 63), type := 4, pos := _, after := #[{ on := 34, ground := Ground.data }, { on := 38, ground := Ground.data }, { on := 31, ground := Ground.guard }], guard := some (31, true) }) (v := ?_) rfl (by kernel_rfl) (by kernel_rfl) (by kernel_rfl) (by kernel_rfl) (fun _ _ _ h => h) (Or.inl ⟨by rfl, ?_⟩) (fun _ => by assumption) ?_
    rotate_left
    · intro w hSw
      try dsimp only at hSw
      go_simp
      try with_reducible rfl
    try simp only [Act.put, List.setIfInBounds_toArray, List.set_cons_zero, List.set_cons_succ]
    refine wpAnyG_pure (i := 40) (oi := { dst := some 65, op := Op.move (Operand.tmp 64), type := 4, pos := _, after := #[{ on := 39, ground := Ground.data }, { on := 37, ground := Ground.chain }, { on := 31, ground := Ground.guard }], guard := some (31, true) }) (v := ?_) rfl (by kernel_rfl) (by kernel_rfl) (by kernel_rfl) (by kernel_rfl) (fun _ _ _ h => h) (Or.inl ⟨by rfl, ?_⟩) (fun _ => by assumption) ?_
    rotate_left
    · intro w hSw
      try dsimp only at hSw
      go_simp
      try with_reducible rfl
    try simp only [Act.put, List.setIfInBounds_toArray, List.set_cons_zero, List.set_cons_succ]
    refine wpAnyG_take (i := 41) (oi := { dst := some 66, op := Op.load 24 (Operand.tmp 3), type := 24, pos := _, after := #[{ on := 40, ground := Ground.guard }], guard := some (40, false) }) (v := ?_) rfl (by kernel_rfl) (by kernel_rfl) (by kernel_rfl) (by kernel_rfl) (fun _ _ _ h => h) (Or.inl ⟨by rfl, ?_⟩) (by assumption) ?_
    rotate_left
    · intro w hSw
      try dsimp only at hSw
      go_simp
      try with_reducible rfl
    try simp only [Act.put, List.setIfInBounds_toArray, List.set_cons_zero, List.set_cons_succ]
    refine wpAnyG_take (i := 42) (oi := { dst := some 67, op := Op.load 24 (Operand.tmp 5), type := 24, pos := _, after := #[{ on := 40, ground := Ground.guard }], guard := some (40, false) }) (v := ?_) rfl (by kernel_rfl) (by kernel_rfl) (by kernel_rfl) (by kernel_rfl) (fun _ _ _ h => h) (Or.inl ⟨by rfl, ?_⟩) (by assumption) ?_
    rotate_left
    · intro w hSw
      try dsimp only at hSw
      go_simp
      try with_reducible rfl
    try simp only [Act.put, List.setIfInBounds_toArray, List.set_cons_zero, List.set_cons_succ]
    refine wpAnyG_one (i := 43) (o := { dst := some 68, op := Op.call { callee := Callee.value (Operand.func 17), args := #[Operand.tmp 66, Operand.tmp 67], argTypes := #[24, 24] }, type := 3, pos := _, after := #[{ on := 41, ground := Ground.data }, { on := 42, ground := Ground.data }, { on := 40, ground := Ground.chain }, { on := 40, ground := Ground.guard }], guard := some (40, false) }) (by kernel_rfl) rfl (fun K hK => ?_)
    go_simp
    refine (KW.out _ hHeld.1).mono ?_
    rintro e w9 ⟨rfl, h⟩
    try dsimp only
    refine hK.out _ _ ?_ (fun hHeld => ?_)
    · intro _
      try dsimp only
      exact ⟨h, KC.out _ h⟩
    clear hK K
    try simp only [Act.put, List.setIfInBounds_toArray, List.set_cons_zero, List.set_cons_succ]
    have hHeld := hHeld (by kernel_rfl)
    refine wpAnyG_pure (i := 44) (oi := { dst := some 69, op := Op.binOp BinOp.leq 3 (Operand.tmp 68) (Operand.const (Value.int IntKind.i64 0)) 3, type := 4, pos := _, after := #[{ on := 43, ground := Ground.data }, { on := 40, ground := Ground.guard }], guard := some (40, false) }) (v := ?_) rfl (by kernel_rfl) (by kernel_rfl) (by kernel_rfl) (by kernel_rfl) (fun _ _ _ h => h) (Or.inl ⟨by rfl, ?_⟩) (fun _ => by assumption) ?_
    rotate_left
    · intro w hSw
      try dsimp only at hSw
      go_simp
      try with_reducible rfl
    try simp only [Act.put, List.setIfInBounds_toArray, List.set_cons_zero, List.set_cons_succ]
    refine wpAnyG_pure (i := 45) (oi := { dst := some 70, op := Op.pick (Operand.tmp 65) (Operand.const (Value.bool true)) (Operand.tmp 69), type := 4, pos := _, after := #[{ on := 40, ground := Ground.data }, { on := 44, ground := Ground.data }, { on := 31, ground := Ground.guard }], guard := some (31, true) }) (v := ?_) rfl (by kernel_rfl) (by kernel_rfl) (by kernel_rfl) (by kernel_rfl) (fun _ _ _ h => h) (Or.inl ⟨by rfl, ?_⟩) (fun _ => by assumption) ?_
    rotate_left
    · intro w hSw
      try dsimp only at hSw
      go_simp
      try with_reducible rfl
    try simp only [Act.put, List.setIfInBounds_toArray, List.set_cons_zero, List.set_cons_succ]
    refine wpAnyG_pure (i := 46) (oi := { dst := some 71, op := Op.pick (Operand.tmp 56) (Operand.tmp 70) (Operand.const (Value.bool false)), type := 4, pos := _, after := #[{ on := 31, ground := Ground.data }, { on := 45, ground := Ground.data }], guard := none }) (v := ?_) rfl (by kernel_rfl) (by kernel_rfl) (by kernel_rfl) (by kernel_rfl) (fun _ _ _ h => h) (Or.inl ⟨by rfl, ?_⟩) (fun _ => by assumption) ?_
    rotate_left
    · intro w hSw
      try dsimp only at hSw
      go_simp
      try with_reducible rfl
    try simp only [Act.put, List.setIfInBounds_toArray, List.set_cons_zero, List.set_cons_succ]
    refine wpAnyG_pure (i := 47) (oi := { dst := some 72, op := Op.move (Operand.tmp 71), type := 4, pos := _, after := #[{ on := 46, ground := Ground.data }, { on := 43, ground := Ground.chain }], guard := none }) (v := ?_) rfl (by kernel_rfl) (by kernel_rfl) (by kernel_rfl) (by kernel_rfl) (fun _ _ _ h => h) (Or.inl ⟨by rfl, ?_⟩) (fun _ => by assumption) ?_
    rotate_left
    · intro w hSw
      try dsimp only at hSw
      go_simp
      try with_reducible rfl
    try simp only [Act.put, List.setIfInBounds_toArray, List.set_cons_zero, List.set_cons_succ]
    refine wpAnyG_one (i := 48) (o := { dst := some 73, op := Op.call { callee := Callee.value (Operand.func 9), args := #[], argTypes := #[] }, type := 4, pos := _, after := #[{ on := 47, ground := Ground.chain }, { on := 47, ground := Ground.guard }], guard := some (47, true) }) (by kernel_rfl) rfl (fun K hK => ?_)
    go_simp
    refine (KZ.out _ hHeld.1).mono ?_
    rintro e w9 ⟨rfl, h⟩
    try dsimp only
    refine hK.out _ _ ?_ (fun hHeld => ?_)
    · intro _
      try dsimp only
      exact ⟨h, KC.out _ h⟩
    clear hK K
    try simp only [Act.put, List.setIfInBounds_toArray, List.set_cons_zero, List.set_cons_succ]
    have hHeld := hHeld (by kernel_rfl)
    refine wpAnyG_pure (i := 49) (oi := { dst := some 74, op := Op.pick (Operand.tmp 72) (Operand.tmp 73) (Operand.const (Value.bool false)), type := 4, pos := _, after := #[{ on := 47, ground := Ground.data }, { on := 48, ground := Ground.data }], guard := none }) (v := ?_) rfl (by kernel_rfl) (by kernel_rfl) (by kernel_rfl) (by kernel_rfl) (fun _ _ _ h => h) (Or.inl ⟨by rfl, ?_⟩) (fun _ => by assumption) ?_
    rotate_left
    · intro w hSw
      try dsimp only at hSw
      go_simp
      try with_reducible rfl
    try simp only [Act.put, List.setIfInBounds_toArray, List.set_cons_zero, List.set_cons_succ]
    refine wpAnyG_pure (i := 50) (oi := { dst := some 6, op := Op.assign (Operand.tmp 74), type := 4, pos := _, after := #[{ on := 49, ground := Ground.data }, { on := 48, ground := Ground.chain }, { on := 0, ground := Ground.phase }, { on := 1, ground := Ground.phase }, { on := 2, ground := Ground.phase }, { on := 3, ground := Ground.phase }, { on := 4, ground := Ground.phase }, { on := 5, ground := Ground.phase }, { on := 6, ground := Ground.phase }, { on := 7, ground := Ground.phase }, { on := 8, ground := Ground.phase }, { on := 9, ground := Ground.phase }, { on := 10, ground := Ground.phase }, { on := 11, ground := Ground.phase }, { on := 12, ground := Ground.phase }, { on := 13, ground := Ground.phase }, { on := 14, ground := Ground.phase }, { on := 15, ground := Ground.phase }, { on := 16, ground := Ground.phase }, { on := 17, ground := Ground.phase }, { on := 18, ground := Ground.phase }, { on := 19, ground := Ground.phase }, { on := 20, ground := Ground.phase }, { on := 21, ground := Ground.phase }, { on := 22, ground := Ground.phase }, { on := 23, ground := Ground.phase }, { on := 24, ground := Ground.phase }, { on := 25, ground := Ground.phase }, { on := 26, ground := Ground.phase }, { on := 27, ground := Ground.phase }, { on := 28, ground := Ground.phase }, { on := 29, ground := Ground.phase }, { on := 30, ground := Ground.phase }, { on := 31, ground := Ground.phase }, { on := 32, ground := Ground.phase }, { on := 33, ground := Ground.phase }, { on := 34, ground := Ground.phase }, { on := 35, ground := Ground.phase }, { on := 36, ground := Ground.phase }, { on := 37, ground := Ground.phase }, { on := 38, ground := Ground.phase }, { on := 39, ground := Ground.phase }, { on := 40, ground := Ground.phase }, { on := 41, ground := Ground.phase }, { on := 42, ground := Ground.phase }, { on := 43, ground := Ground.phase }, { on := 44, ground := Ground.phase }, { on := 45, ground := Ground.phase }, { on := 46, ground := Ground.phase }, { on := 47, ground := Ground.phase }, { on := 48, ground := Ground.phase }, { on := 49, ground := Ground.phase }], guard := none }) (v := ?_) rfl (by kernel_rfl) (by kernel_rfl) (by kernel_rfl) (by kernel_rfl) (fun _ _ _ h => h) (Or.inl ⟨by rfl, ?_⟩) (fun _ => by assumption) ?_
    rotate_left
    · intro w hSw
      try dsimp only at hSw
      go_simp
      try with_reducible rfl
    try simp only [Act.put, List.setIfInBounds_toArray, List.set_cons_zero, List.set_cons_succ]
    refine wpAnyG_done (by kernel_rfl) ?_ _
    refine NoPanic.normal ?_
    go_wp2_with fail
    go_ret
    exact ⟨rfl, next H5.out.below hHeld.1⟩
theorem cmp_three (a b : Sh) : a.cmp b = -1 ∨ a.cmp b = 0 ∨ a.cmp b = 1 := by
  unfold Sh.cmp orI
  rcases cmpL_three a.key b.key with h | h | h <;> rcases cmpI_three a.ver b.ver with h2 | h2 | h2 <;> rcases cmpI_three a.node b.node with h3 | h3 | h3 <;> simp [h, h2, h3]
theorem orderLaw_any (w : World) (x : Sm) (hx : x.good w) (y : Sm) (hy : y.good w) (z : Sm) (hz : z.good w) : Calls Try.prog 4 #[.agg x.cells, .agg y.cells, .agg z.cells] w fun e w' => e = .returned (.bool true) ∧ Below w.heap.size w w' := by
  obtain ⟨Aa, Ba, na, ca, ma, da, va, ea, ca0, la⟩ := Sm.ltr hx
  obtain ⟨Ab, Bb, nb, cb, mb, db, vb, eb, cb0, lb⟩ := Sm.ltr hy
  obtain ⟨Ac, Bc, nc, cc, mc, dc, vc, ec, cc0, lc⟩ := Sm.ltr hz
  rw [ca0, cb0, cc0]
  cases fa : fewN na ma
  · exact order_noa w x.s Aa Ba na ca ma da va ea y.s Ab Bb nb cb mb db vb eb z.s Ac Bc nc cc mc dc vc ec la lb lc fa
  cases fb : fewN nb mb
  · exact order_nob w x.s Aa Ba na ca ma da va ea y.s Ab Bb nb cb mb db vb eb z.s Ac Bc nc cc mc dc vc ec la lb lc fa fb
  cases fc : fewN nc mc
  · exact order_noc w x.s Aa Ba na ca ma da va ea y.s Ab Bb nb cb mb db vb eb z.s Ac Bc nc cc mc dc vc ec la lb lc fa fb fc
  refine order_yes w x.s Aa Ba na ca ma da va ea y.s Ab Bb nb cb mb db vb eb z.s Ac Bc nc cc mc dc vc ec la lb lc fa fb fc _ _ _ _ _ rfl rfl rfl rfl rfl ?_ ?_
  · rw [cmp_neg x.s y.s]
    rcases cmp_three y.s x.s with h | h | h <;> rw [h] <;> rfl
  · rcases cmp_three x.s y.s with h | h | h
    · right
      refine ⟨by rw [h]; simp, ?_⟩
      rcases cmp_three y.s z.s with h2 | h2 | h2
      · exact .inr ⟨by rw [h2]; simp, decide_eq_true (cmp_trans (b := y.s) (by omega) (by omega))⟩
      · exact .inr ⟨by rw [h2]; simp, decide_eq_true (cmp_trans (b := y.s) (by omega) (by omega))⟩
      · exact .inl (by rw [h2]; decide)
    · right
      refine ⟨by rw [h]; simp, ?_⟩
      rcases cmp_three y.s z.s with h2 | h2 | h2
      · exact .inr ⟨by rw [h2]; simp, decide_eq_true (cmp_trans (b := y.s) (by omega) (by omega))⟩
      · exact .inr ⟨by rw [h2]; simp, decide_eq_true (cmp_trans (b := y.s) (by omega) (by omega))⟩
      · exact .inl (by rw [h2]; decide)
    · exact .inl h
end Go.Proofs.Ytlmcmcafbepjmaa.ShW
