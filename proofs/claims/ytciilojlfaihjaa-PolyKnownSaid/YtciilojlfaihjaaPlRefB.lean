/- The document's polynomials: Add, Mul. -/
import Derived.Test.YtciilojlfaihjaaPlRefA
namespace Go.Proofs.Ytciilojlfaihjaa.PlW
open Go.RowKit Mem Gf FdW Pl Rng
set_option linter.unusedVariables false

/-- The first n sums. -/
def zipc (a b : List UInt8) (n : Nat) : List UInt8 := (List.range n).map fun k => cf a k ^^^ cf b k
theorem zipc_succ (a b : List UInt8) (n : Nat) : zipc a b (n + 1) = zipc a b n ++ [cf a n ^^^ cf b n] := by simp [zipc, List.range_succ]
theorem zipc_len (a b : List UInt8) (n : Nat) : (zipc a b n).length = n := by simp [zipc]
theorem zipc_all {a b : List UInt8} {n : Nat} (ha : a.length ≤ n) (hb : b.length ≤ n) : Eqv (zipc a b n) (add a b) := fun k => by
  rw [cf_add]
  by_cases h : k < n
  · rw [cf_lt (by rw [zipc_len]; exact h)]; simp [zipc]
  · rw [cf_ge (by rw [zipc_len]; omega), cf_ge (l := a) (by omega), cf_ge (l := b) (by omega)]; rfl
theorem xor8 (x y : UInt8) : bits .xor .u8 (x.toNat : Int) (y.toNat : Int) = ((x ^^^ y).toNat : Int) := by rw [u8_xor_nat _ _ x.toNat_lt y.toNat_lt, UInt8.toNat_xor]
theorem own_snoc {w : World} {base : Nat} {T : TypeId} {A : Option Addr} {c : Nat} {l : List UInt8} {x : UInt8} {v : Value} (h : Mem.Own w base T A c (l.map u8v ++ [v])) (hv : v = u8v x) : Mem.Own w base T A c ((l ++ [x]).map u8v) := by
  subst hv; rw [List.map_append]; exact h

set_option maxRecDepth 100000 in
set_option maxHeartbeats 2000000 in
theorem rpAdd_any (w : World) (A : Option Addr) (a : List UInt8) (n ca : Nat) (hn : n = a.length) (B : Option Addr) (b : List UInt8) (m cb : Nat) (hm : m = b.length) (hla : (a.length : Int) ≤ 10000) (hlb : (b.length : Int) ≤ 10000) (hA : Bytes w w.heap.size A a) (hB : Bytes w w.heap.size B b) :
    Calls Try.prog 21 #[.slice A n ca, .slice B m cb] w (NewOk w (trim (add a b))) := by
  obtain ⟨i0, hi0, hz0, hz1, hz2⟩ := info_parts u8info
  subst hn; subst hm
  have HA := Lib.hid hA
  have HB := Lib.hid hB
  have HL := Lib.hid (And.intro hla hlb)
  clear hA hB
  go_enter Try.func21, Try.ntmps21
  go_wp2_with fail
  go_loopw [5, 6] (fun s i wr => ∃ (j : Nat) (O : Option Addr) (co : Nat), i = .int .i64 (j : Int) ∧ s = .slice O j co ∧ (j ≤ a.length ∨ j ≤ b.length) ∧ Mem.Own wr w.heap.size 5 O co ((zipc a b j).map u8v) ∧ Below w.heap.size w wr) (fun _ i _ => a.length + b.length - (intOf i).toNat)
  case atStart => exact ⟨0, none, 0, rfl, rfl, .inl (Nat.zero_le _), Own.nil, Below.refl _ _⟩
  case round =>
    obtain ⟨j, O, co, rfl, rfl, hj, ho, hb⟩ := hrel
    have HR := Lib.hid (And.intro ho hb)
    clear ho hb
    by_cases hor : j < a.length ∨ j < b.length
    · have hj9 : (j : Int) ≤ 10000 := by have := HL.out; omega
      have HO := Lib.hid (show (zipc a b (j + 1)).map u8v = (zipc a b j).map u8v ++ [u8v (cf a j ^^^ cf b j)] from by rw [zipc_succ]; simp)
      have key : ∀ (v : Int), v = ((cf a j ^^^ cf b j).toNat : Int) → ∀ (Q : World → Prop), True := fun _ _ _ => trivial
      clear key
      have HZL := Lib.hid (zipc_len a b j)
      by_cases ha : j < a.length
      · obtain ⟨g1, o1, rfl, hg1, hca⟩ := (HA.out.below HR.out.2).at_ (k := j) ha
        rw [← cf_lt ha] at hca
        have hai : (j : Int) < (a.length : Int) := by omega
        by_cases hbj : j < b.length
        · obtain ⟨g2, o2, rfl, hg2, hcb⟩ := (HB.out.below HR.out.2).at_ (k := j) hbj
          rw [← cf_lt hbj] at hcb
          have hbi : (j : Int) < (b.length : Int) := by omega
          generalize cf a j = x at *
          generalize cf b j = y at *
          have hx := xor8 x y
          have hbs := build1 wr ((x ^^^ y).toNat : Int)
          have hjl : j ≤ 20000 := by omega
          clear hor hj ha hbj
          go_wp2_with ((with_reducible show wpList _ _ _ ((⟨some 41, _, _, _, _, _⟩ : Oper) :: _) _ _); refine wpList_app _ rfl _ _ _ rfl w.heap.size 5 i0 _ 1 Try.underlying22 hi0 hz0 hz1 hz2 rfl O co j _ rfl (by rw [List.length_map]; exact HZL.out.symm) (HR.out.1.alloc _) (wr.heap.size + 1) (some ⟨wr.heap.size, 0, none⟩) 1 1 [.int .u8 ((x ^^^ y).toNat : Int)] rfl rfl (cells_one wr _ _ _ (by omega)) (fun u hu => by simp at hu; subst hu; rfl) (by rw [List.length_map, HZL.out]; simp [maxLen]; omega) (by rw [List.length_map, HZL.out]; simp; omega) (by have := HR.out.2.size; simp; omega) (j + 1) rfl ?_; intro A1 c1 w2 ho1 hb1 _ _)
          have HO1 := Lib.hid (And.intro ho1 hb1)
          clear ho1 hb1
          go_wp2_with fail
          go_roundw
          case rel => exact ⟨j + 1, A1, c1, rfl, rfl, .inl (by omega), by rw [HO.out]; exact HO1.out.1, HR.out.2.trans (((nextA (Mem.start wr) _).mono HR.out.2.size).trans HO1.out.2)⟩
          case measure => simp [intOf]; omega
        · have HY := Lib.hid (show cf b j = 0 from cf_ge (by omega))
          have hbi : ¬ (j : Int) < (b.length : Int) := by omega
          rw [HY.out, Pl.xor_zero] at HO
          generalize cf a j = x at *
          have hbs := build1 wr (x.toNat : Int)
          have hjl : j ≤ 20000 := by omega
          clear hor hj ha hbj
          go_wp2_with ((with_reducible show wpList _ _ _ ((⟨some 41, _, _, _, _, _⟩ : Oper) :: _) _ _); refine wpList_app _ rfl _ _ _ rfl w.heap.size 5 i0 _ 1 Try.underlying22 hi0 hz0 hz1 hz2 rfl O co j _ rfl (by rw [List.length_map]; exact HZL.out.symm) (HR.out.1.alloc _) (wr.heap.size + 1) (some ⟨wr.heap.size, 0, none⟩) 1 1 [.int .u8 (x.toNat : Int)] rfl rfl (cells_one wr _ _ _ (by omega)) (fun u hu => by simp at hu; subst hu; rfl) (by rw [List.length_map, HZL.out]; simp [maxLen]; omega) (by rw [List.length_map, HZL.out]; simp; omega) (by have := HR.out.2.size; simp; omega) (j + 1) rfl ?_; intro A1 c1 w2 ho1 hb1 _ _)
          have HO1 := Lib.hid (And.intro ho1 hb1)
          clear ho1 hb1
          go_wp2_with fail
          go_roundw
          case rel => exact ⟨j + 1, A1, c1, rfl, rfl, .inl (by omega), by rw [HO.out]; exact HO1.out.1, HR.out.2.trans (((nextA (Mem.start wr) _).mono HR.out.2.size).trans HO1.out.2)⟩
          case measure => simp [intOf]; omega
      · have hbj : j < b.length := by omega
        obtain ⟨g2, o2, rfl, hg2, hcb⟩ := (HB.out.below HR.out.2).at_ (k := j) hbj
        rw [← cf_lt hbj] at hcb
        have HY := Lib.hid (show cf a j = 0 from cf_ge (by omega))
        have hai : ¬ (j : Int) < (a.length : Int) := by omega
        have hbi : (j : Int) < (b.length : Int) := by omega
        rw [HY.out, UInt8.zero_xor] at HO
        generalize cf b j = y at *
        have hx : bits .xor .u8 0 (y.toNat : Int) = (y.toNat : Int) := by have := xor8 0 y; rwa [UInt8.zero_xor] at this
        have hbs := build1 wr (y.toNat : Int)
        have hjl : j ≤ 20000 := by omega
        clear hor hj ha hbj
        go_wp2_with ((with_reducible show wpList _ _ _ ((⟨some 41, _, _, _, _, _⟩ : Oper) :: _) _ _); refine wpList_app _ rfl _ _ _ rfl w.heap.size 5 i0 _ 1 Try.underlying22 hi0 hz0 hz1 hz2 rfl O co j _ rfl (by rw [List.length_map]; exact HZL.out.symm) (HR.out.1.alloc _) (wr.heap.size + 1) (some ⟨wr.heap.size, 0, none⟩) 1 1 [.int .u8 (y.toNat : Int)] rfl rfl (cells_one wr _ _ _ (by omega)) (fun u hu => by simp at hu; subst hu; rfl) (by rw [List.length_map, HZL.out]; simp [maxLen]; omega) (by rw [List.length_map, HZL.out]; simp; omega) (by have := HR.out.2.size; simp; omega) (j + 1) rfl ?_; intro A1 c1 w2 ho1 hb1 _ _)
        have HO1 := Lib.hid (And.intro ho1 hb1)
        clear ho1 hb1
        go_wp2_with fail
        go_roundw
        case rel => exact ⟨j + 1, A1, c1, rfl, rfl, .inr (by omega), by rw [HO.out]; exact HO1.out.1, HR.out.2.trans (((nextA (Mem.start wr) _).mono HR.out.2.size).trans HO1.out.2)⟩
        case measure => simp [intOf]; omega
    · have hai : ¬ (j : Int) < (a.length : Int) := by omega
      have hbi : ¬ (j : Int) < (b.length : Int) := by omega
      have HE := Lib.hid (zipc_all (a := a) (b := b) (n := j) (by omega) (by omega))
      have HZL := Lib.hid (zipc_len a b j)
      have hj9 : (j : Int) ≤ 10000 := by have := HL.out; omega
      clear hor hj
      go_wp2_with fail
      refine (rpTrim_any wr O (zipc a b j) j co HZL.out.symm (by rw [HZL.out]; omega) (by have := HR.out.1.le; simpa using this) HR.out.1.bytes).mono ?_
      rintro e w3 ⟨O3, c3, rfl, ho, hb⟩
      rw [trim_congr HE.out] at ho ⊢
      have H3 := Lib.hid (And.intro ho hb)
      clear ho hb
      go_wp2_with fail
      go_ret
      exact ⟨O3, c3, rfl, H3.out.1.down HR.out.2.size, HR.out.2.trans (H3.out.2.mono HR.out.2.size)⟩
end Go.Proofs.Ytciilojlfaihjaa.PlW
