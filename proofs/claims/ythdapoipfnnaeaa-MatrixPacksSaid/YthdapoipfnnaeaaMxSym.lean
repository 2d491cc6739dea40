/- Symmetric. -/
import Derived.Test.YthdapoipfnnaeaaMxPow
namespace Go.Proofs.Ythdapoipfnnaeaa.MxW
open Go.RowKit Go.Shelf Mem Gf FdW Mx Rng
open PlW (In)
set_option linter.unusedVariables false
attribute [local go_sem] Oper.semAt_some wide_fn

/-- Where row i of a packed one begins. -/
def offS (n : Nat) : Nat → Nat
  | 0 => 0
  | i + 1 => offS n i + (n - i)
def symM (n : Nat) (b : List UInt8) : M := fun x y => if x ≤ y then b.getD (offS n x + (y - x)) 0 else b.getD (offS n y + (x - y)) 0
/-- Rows ahead of i whole, row i up to column j. -/
def symUp (n : Nat) (b : List UInt8) (i j : Nat) : M := fun x y => if min x y < i ∨ (min x y = i ∧ max x y < j) then symM n b x y else 0
theorem offS_two (n : Nat) : ∀ i, i ≤ n → 2 * offS n i + i * i = i * (2 * n + 1)
  | 0, _ => by simp [offS]
  | i + 1, h => by
    have ih := offS_two n i (by omega)
    unfold offS
    obtain ⟨d, rfl⟩ : ∃ d, n = i + 1 + d := ⟨n - (i + 1), by omega⟩
    rw [show i + 1 + d - i = d + 1 by omega]
    simp only [Nat.add_mul, Nat.mul_add, Nat.one_mul, Nat.mul_one] at ih ⊢
    omega
theorem offS_len (n : Nat) : 2 * offS n n = n * (n + 1) := by
  have h := offS_two n n (Nat.le_refl _)
  simp only [Nat.mul_add, Nat.mul_one] at h ⊢
  have e : n * (2 * n) = 2 * (n * n) := by rw [← Nat.mul_assoc, Nat.mul_comm n 2, Nat.mul_assoc]
  omega
theorem offS_mono {n i k : Nat} (h : i ≤ k) : offS n i ≤ offS n k := by
  induction k with
  | zero => obtain rfl : i = 0 := by omega
            exact Nat.le_refl _
  | succ k ih =>
    by_cases e : i = k + 1
    · rw [e]; exact Nat.le_refl _
    · have := ih (by omega)
      show offS n i ≤ offS n k + (n - k)
      omega
theorem offS_lt {n i j : Nat} (hi : i < n) (hj : i ≤ j) (hjn : j < n) : offS n i + (j - i) < offS n n := by
  have h1 : offS n (i + 1) ≤ offS n n := offS_mono (by omega)
  have h2 : offS n (i + 1) = offS n i + (n - i) := rfl
  omega
theorem sym_step (n : Nat) (b : List UInt8) {i j : Nat} (hij : i ≤ j) (x y : Nat) : upd (upd (symUp n b i j) i j (b.getD (offS n i + (j - i)) 0)) j i (b.getD (offS n i + (j - i)) 0) x y = symUp n b i (j + 1) x y := by
  have hs : ∀ x y, (x = j ∧ y = i) ∨ (x = i ∧ y = j) → symM n b x y = b.getD (offS n i + (j - i)) 0 := fun x y h => by
    unfold symM
    rcases h with ⟨rfl, rfl⟩ | ⟨rfl, rfl⟩
    · by_cases e : x ≤ y
      · obtain rfl : x = y := by omega
        rw [if_pos (Nat.le_refl _)]
      · rw [if_neg e]
    · rw [if_pos hij]
  unfold upd symUp
  by_cases h1 : x = j ∧ y = i
  · rw [if_pos h1, if_pos (by omega), hs x y (.inl h1)]
  · rw [if_neg h1]
    by_cases h2 : x = i ∧ y = j
    · rw [if_pos h2, if_pos (by omega), hs x y (.inr h2)]
    · rw [if_neg h2]
      by_cases h3 : min x y < i ∨ min x y = i ∧ max x y < j
      · rw [if_pos h3, if_pos (by omega)]
      · rw [if_neg h3, if_neg (by omega)]
theorem sym_next (n : Nat) (b : List UInt8) (i x y : Nat) (hx : x < n) (hy : y < n) : symUp n b i n x y = symUp n b (i + 1) (i + 1) x y := by
  unfold symUp
  by_cases h : min x y < i ∨ min x y = i ∧ max x y < n
  · rw [if_pos h, if_pos (by omega)]
  · rw [if_neg h, if_neg (by omega)]
/-- While Symmetric goes on. -/
structure SymI (w : World) (g2 g3 g4 g6 B g n : Nat) (b : List UInt8) (i j : Nat) (W : World) : Prop where
  below : Below w.heap.size w W
  bn : Blk W g2 3 #[.int .i64 (n : Int)]
  b3 : ∃ Y l c, Blk W g3 22 #[.slice Y l c] ∧ l = b.length - (offS n i + (j - i)) ∧ l ≤ c ∧ c ≤ maxLen ∧ Bytes W w.heap.size Y (b.drop (offS n i + (j - i)))
  res : Blk W g4 27 zmx
  var : Blk W g6 27 (mcells n n (some ⟨g, 0, none⟩) (n * n) (n * n))
  row : Wm W B g (n * n) n n (symUp n b i j)
section
variable {w W W' : World} {g2 g3 g4 g6 B g n : Nat} {b : List UInt8} {i j : Nat}
theorem SymI.fr_ {S : Nat → Prop} (h : SymI w g2 g3 g4 g6 B g n b i j W) (hf : Fr S W W') (hS : ∀ k, S k → w.heap.size ≤ k) (hg : ¬ S g2 ∧ ¬ S g3 ∧ ¬ S g4 ∧ ¬ S g6 ∧ ¬ S g) : SymI w g2 g3 g4 g6 B g n b i j W' := by
  obtain ⟨Y, l, c, h1, h2, h3, h4, h5⟩ := h.b3
  exact ⟨h.below.trans (hf.below h.below.size hS), h.bn.fr hf hg.1, ⟨Y, l, c, h1.fr hf hg.2.1, h2, h3, h4, h5.below (hf.below h.below.size hS)⟩, h.res.fr hf hg.2.2.1, h.var.fr hf hg.2.2.2.1, h.row.fr hf hg.2.2.2.2⟩
theorem SymI.keep (h : SymI w g2 g3 g4 g6 B g n b i j W) (hb : Below W.heap.size W W') : SymI w g2 g3 g4 g6 B g n b i j W' :=
  h.fr_ (Fr.quiet (S := fun _ => False) hb) (fun _ h => h.elim) ⟨fun h => h, fun h => h, fun h => h, fun h => h, fun h => h⟩
theorem SymI.congr {i' j' : Nat} (h : SymI w g2 g3 g4 g6 B g n b i j W) (ho : offS n i + (j - i) = offS n i' + (j' - i')) (e : ∀ x, x < n → ∀ y, y < n → symUp n b i j x y = symUp n b i' j' x y) : SymI w g2 g3 g4 g6 B g n b i' j' W := by
  refine ⟨h.below, h.bn, ?_, h.res, h.var, h.row.congr e⟩
  have := h.b3
  rwa [ho] at this
end
set_option maxRecDepth 100000 in
set_option maxHeartbeats 4000000 in
theorem sym_bad (w : World) (n : Int) (A : Option Addr) (l cap : Nat) (hn : -9223372036854775808 ≤ n ∧ n ≤ 9223372036854775807) (h : n < 0 ∨ 65536 < n ∨ (0 ≤ n ∧ n ≤ 65536 ∧ (l : Int) ≠ n * (n + 1) / 2)) :
    Calls Try.prog 30 #[.int .i64 n, .slice A l cap] w (ErrM w 50) := by
  obtain ⟨x1, g1, h1, e1, n1⟩ := boxedT w #[.int .i64 n] 3
  obtain ⟨x2, g2, h2, e2, n2⟩ := boxedT x1 #[.slice A l cap] 22
  obtain ⟨w1, g0, h3, e3, n3⟩ := boxed x2 zmx
  have k1 := h1.2.2; have k2 := h2.2.2
  obtain rfl : g2 = g1 + 1 := by omega
  obtain rfl : g0 = g1 + 1 + 1 := by omega
  have H1 := Lib.hid (show Below w.heap.size w w1 ∧ Blk w1 g1 3 #[.int .i64 n] ∧ Blk w1 (g1 + 1) 22 #[.slice A l cap] ∧ Blk w1 (g1 + 1 + 1) 27 zmx from ⟨next (next h1.1 h2.1) h3.1, (h1.2.1.keep h2.1).keep h3.1, h2.2.1.keep h3.1, h3.2.1⟩)
  have HW1 := Lib.hid (show ((w.alloc (.cells #[.int .i64 n] 3)).alloc (.cells #[.slice A l cap] 22)).alloc (.cells #[.int .i64 0, .int .i64 0, .slice none 0 0] 27) = w1 from by rw [e1, e2]; exact e3)
  have HG := Lib.hid n1
  obtain ⟨⟨d0, d1, d2⟩, f0, f1, f2⟩ := cells3 H1.out.2.2.2
  have c1 : w1.cell? ⟨g1, 0, none⟩ = some (.int .i64 n) := H1.out.2.1.cell 0
  have c2 : w1.cell? ⟨g1 + 1, 0, none⟩ = some (.slice A l cap) := H1.out.2.2.1.cell 0
  obtain ⟨⟨e0, e1', e2'⟩, _⟩ := cells3 H1.out.2.2.2
  rw [← HG.out] at d0 d1 d2 f0 f1 f2 c1 c2
  rw [← HW1.out] at d0 d1 d2 f0 f1 f2 c1 c2
  have fin : ErrM w 50 (.returned (.tuple #[.agg #[.int .i64 0, .int .i64 0, .slice none 0 0], .int .i64 50])) w1 := ⟨rfl, H1.out.1⟩
  have FIN := Lib.hid fin
  clear h1 h2 h3 e1 e2 e3 n1 n2 n3 k1 k2 fin
  rcases h with h | h | ⟨h0, h6, hl⟩
  · have z1 : decide (n < 0) = true := decide_eq_true h
    clear h hn
    go_enter Try.func30, Try.ntmps30
    go_wp2_with fail
    rw [HW1.out, HG.out]
    exact bodyPost_ret (v := .tuple #[.agg #[.int .i64 0, .int .i64 0, .slice none 0 0], .int .i64 50]) (by simp [results, Try.results30, go_sem, e0, e1', e2']) rfl FIN.out
  · have z1 : decide (n < 0) = false := decide_eq_false (by omega)
    have z2 : decide (65536 < n) = true := decide_eq_true h
    clear h hn
    go_enter Try.func30, Try.ntmps30
    go_wp2_with fail
    rw [HW1.out, HG.out]
    exact bodyPost_ret (v := .tuple #[.agg #[.int .i64 0, .int .i64 0, .slice none 0 0], .int .i64 50]) (by simp [results, Try.results30, go_sem, e0, e1', e2']) rfl FIN.out
  · have z1 : decide (n < 0) = false := decide_eq_false (by omega)
    have z2 : decide (65536 < n) = false := decide_eq_false (by omega)
    have q1 : wrap64 (n + 1) = n + 1 := by unfold wrap64; omega
    obtain ⟨P, hP⟩ : ∃ P, n * (n + 1) = P := ⟨_, rfl⟩
    have hP2 : 0 ≤ P ∧ P ≤ 65536 * 65537 := by
      obtain ⟨k, rfl⟩ : ∃ k : Nat, n = (k : Int) := ⟨n.toNat, by omega⟩
      have h1 : k * (k + 1) ≤ 65536 * 65537 := Nat.mul_le_mul (by omega) (by omega)
      have h2 : P = ((k * (k + 1) : Nat) : Int) := by rw [← hP, Int.natCast_mul]; rfl
      omega
    have q2 : wrap64 P = P := by unfold wrap64; omega
    have q3 : P.tdiv 2 = P / 2 := Int.tdiv_eq_ediv_of_nonneg hP2.1
    have q4 : wrap64 (P / 2) = P / 2 := by unfold wrap64; omega
    obtain ⟨Q, hQ⟩ : ∃ Q, P / 2 = Q := ⟨_, rfl⟩
    rw [hP, hQ] at hl
    rw [hQ] at q3 q4
    have hne : ((l : Int) != Q) = true := by simpa using hl
    clear h0 h6 hl hP2 hQ hn
    go_enter Try.func30, Try.ntmps30
    go_wp2_with fail
    rw [HW1.out, HG.out]
    exact bodyPost_ret (v := .tuple #[.agg #[.int .i64 0, .int .i64 0, .slice none 0 0], .int .i64 50]) (by simp [results, Try.results30, go_sem, e0, e1', e2']) rfl FIN.out
theorem SymI.step {w W : World} {g2 g3 g4 g6 B g n : Nat} {b : List UInt8} {i j : Nat} {Y Y' : Option Addr} {l c : Nat} (h : SymI w g2 g3 g4 g6 B g n b i j W) (hi : i < n) (hj : j < n) (hij : i ≤ j) (x : UInt8) (hx : b.getD (offS n i + (j - i)) 0 = x) (hg : w.heap.size ≤ g ∧ w.heap.size ≤ g3) (hne : g2 ≠ g ∧ g4 ≠ g ∧ g6 ≠ g ∧ g ≠ g3 ∧ g2 ≠ g3 ∧ g4 ≠ g3 ∧ g6 ≠ g3)
    (hY : Blk W g3 22 #[.slice Y l c]) (hl : l = b.length - (offS n i + (j - i))) (hl0 : 0 < l) (hlc : l ≤ c) (hc : c ≤ maxLen) (hY' : Bytes W w.heap.size Y' (b.drop (offS n i + (j - i) + 1))) :
    SymI w g2 g3 g4 g6 B g n b i (j + 1) (((W.setCell ⟨g, i * n + j, none⟩ (.int .u8 (x.toNat : Int))).setCell ⟨g, j * n + i, none⟩ (.int .u8 (x.toNat : Int))).setCell ⟨g3, 0, none⟩ (.slice Y' (l - 1) (c - 1))) := by
  have hf1 := setF (p := g) W ⟨g, i * n + j, none⟩ rfl (.int .u8 (x.toNat : Int))
  have hw1 := h.row.set hi hj x
  obtain ⟨W1, hW1⟩ : ∃ X : World, W.setCell ⟨g, i * n + j, none⟩ (.int .u8 (x.toNat : Int)) = X := ⟨_, rfl⟩
  rw [hW1] at hf1 hw1 ⊢
  have hf2 := setF (p := g) W1 ⟨g, j * n + i, none⟩ rfl (.int .u8 (x.toNat : Int))
  have hw2 := hw1.set hj hi x
  obtain ⟨W2, hW2⟩ : ∃ X : World, W1.setCell ⟨g, j * n + i, none⟩ (.int .u8 (x.toNat : Int)) = X := ⟨_, rfl⟩
  rw [hW2] at hf2 hw2 ⊢
  have hf := hf1.trans hf2 fun _ _ h => h
  have hf3 := setF (p := g3) W2 ⟨g3, 0, none⟩ rfl (.slice Y' (l - 1) (c - 1))
  have hb1 : Below w.heap.size w W2 := h.below.trans (hf.below h.below.size fun k e => by omega)
  have hbb : Below w.heap.size W (W2.setCell ⟨g3, 0, none⟩ (.slice Y' (l - 1) (c - 1))) := (hf.below h.below.size fun k e => by omega).trans (hf3.below (Nat.le_trans h.below.size hf.size) fun k e => by omega)
  refine ⟨h.below.trans hbb, (h.bn.fr hf (by omega)).fr hf3 (by omega), ⟨Y', l - 1, c - 1, (hY.fr hf (by omega)).set_ 0 _, ?_, by omega, by omega, ?_⟩, (h.res.fr hf (by omega)).fr hf3 (by omega), (h.var.fr hf (by omega)).fr hf3 (by omega), (hw2.fr hf3 (by omega)).congr fun u _ v _ => ?_⟩
  · rw [hl]; omega
  · rw [show offS n i + (j + 1 - i) = offS n i + (j - i) + 1 by omega]; exact hY'.below hbb
  · rw [← hx]; exact sym_step n b hij u v
set_option maxRecDepth 100000 in
set_option maxHeartbeats 4000000 in
theorem sym_ok (w : World) (n : Nat) (hn : n ≤ 100) (A : Option Addr) (b : List UInt8) (l cap : Nat) (hl : b.length = l) (h2l : 2 * l = n * (n + 1)) (hcap : l ≤ cap) (hcm : cap ≤ maxLen) (hA : Bytes w w.heap.size A b) :
    Calls Try.prog 30 #[.int .i64 (n : Int), .slice A l cap] w (NewT w n n (symM n b)) := by
  have hq : ((n * n : Nat) : Int) ≤ 1000000000 := by
    have h1 : n * n ≤ 100 * 100 := Nat.mul_le_mul hn hn
    omega
  refine of_wide ?_
  refine callsIn_of_wp_marks Try.func30 rfl trivial ?_ rfl
  refine wpIn_wide.2 ?_
  simp only [Try.ntmps30, List.size_toArray, List.length_cons, List.length_nil, Nat.reduceAdd, Nat.reduceSub, Array.replicate_succ, Array.replicate_zero, List.push_toArray, List.append_toArray, List.nil_append, List.cons_append]
  obtain ⟨x1, g1, h1, e1, n1⟩ := boxedT w #[.int .i64 (n : Int)] 3
  obtain ⟨x2, g2, h2, e2, n2⟩ := boxedT x1 #[.slice A l cap] 22
  obtain ⟨w1, g0, h3, e3, n3⟩ := boxed x2 zmx
  have k1 := h1.2.2; have k2 := h2.2.2; have k3 := h3.2.2
  obtain rfl : g2 = g1 + 1 := by omega
  obtain rfl : g0 = g1 + 1 + 1 := by omega
  have H1 := Lib.hid (show Below w.heap.size w w1 ∧ Blk w1 g1 3 #[.int .i64 (n : Int)] ∧ Blk w1 (g1 + 1) 22 #[.slice A l cap] ∧ Blk w1 (g1 + 1 + 1) 27 zmx ∧ w1.heap.size = g1 + 3 from ⟨next (next h1.1 h2.1) h3.1, (h1.2.1.keep h2.1).keep h3.1, h2.2.1.keep h3.1, h3.2.1, by omega⟩)
  have HW1 := Lib.hid (show ((w.alloc (.cells #[.int .i64 (n : Int)] 3)).alloc (.cells #[.slice A l cap] 22)).alloc (.cells #[.int .i64 0, .int .i64 0, .slice none 0 0] 27) = w1 from by rw [e1, e2]; exact e3)
  have HG := Lib.hid n1
  have c1 : w1.cell? ⟨g1, 0, none⟩ = some (.int .i64 (n : Int)) := H1.out.2.1.cell 0
  have c2 : w1.cell? ⟨g1 + 1, 0, none⟩ = some (.slice A l cap) := H1.out.2.2.1.cell 0
  rw [← HG.out] at c1 c2
  rw [← HW1.out] at c1 c2
  have hl9 : l ≤ 10100 := by
    have h1 : n * (n + 1) ≤ 100 * 101 := Nat.mul_le_mul hn (by omega)
    omega
  have HL := Lib.hid (And.intro hn (And.intro hl (And.intro hcap (And.intro hcm hq))))
  have HOF := Lib.hid (show b.length = offS n n from by have h := offS_len n; rw [← h2l] at h; omega)
  have hP : (n : Int) * ((n : Int) + 1) = ((2 * l : Nat) : Int) := by rw [h2l, Int.natCast_mul]; rfl
  obtain ⟨P, hPP⟩ : ∃ P : Int, ((2 * l : Nat) : Int) = P := ⟨_, rfl⟩
  rw [hPP] at hP
  have hPl : P = 2 * (l : Int) := by omega
  have z1 : decide ((n : Int) < 0) = false := decide_eq_false (by omega)
  have z2 : decide ((65536 : Int) < (n : Int)) = false := decide_eq_false (by omega)
  have q3 : P.tdiv 2 = (l : Int) := by rw [Int.tdiv_eq_ediv_of_nonneg (by omega)]; omega
  have q5 : P / 2 = (l : Int) := by omega
  have q1 : wrap64 ((n : Int) + 1) = (n : Int) + 1 := by clear hP q3 q5; unfold wrap64; omega
  have q2 : wrap64 P = P := by clear q1 hP q3 q5; unfold wrap64; omega
  have q4 : wrap64 (l : Int) = (l : Int) := by clear q1 q2 hP q3 q5; unfold wrap64; omega
  clear hPl
  have HA := Lib.hid hA
  clear h1 h2 h3 e1 e2 e3 n1 n2 n3 k1 k2 k3 hn hl h2l hcap hcm hA hq hPP hl9
  go_wp2_with fail
  rw [HW1.out, HG.out]
  clear q1 q2 q3 q4 q5 hP c1 c2
  refine (none_any w1 n n HL.out.2.2.2.2).mono ?_
  rintro e w2 ⟨g, rfl, ho, hb⟩
  have H2 := Lib.hid (show Below w.heap.size w w2 ∧ Blk w2 g1 3 #[.int .i64 (n : Int)] ∧ Blk w2 (g1 + 1) 22 #[.slice A l cap] ∧ Blk w2 (g1 + 1 + 1) 27 zmx ∧ Wm w2 w1.heap.size g (n * n) n n (fun _ _ => 0) from ⟨next H1.out.1 hb, H1.out.2.1.keep hb, H1.out.2.2.1.keep hb, H1.out.2.2.2.1.keep hb, ho⟩)
  have HS2 := Lib.hid hb.size
  clear ho hb
  go_wp2_with fail
  obtain ⟨w3, g7, h3, hw3, hg7⟩ := boxed w2 (mcells n n (some ⟨g, 0, none⟩) (n * n) (n * n))
  have HW3 := Lib.hid (show w2.alloc (.cells #[.int .i64 (n : Int), .int .i64 (n : Int), .slice (some ⟨g, 0, none⟩) (n * n) (n * n)] 27) = w3 from hw3)
  rw [HW3.out, hg7]
  have H3 := Lib.hid h3
  have HG7 := Lib.hid hg7
  clear hw3 h3 hg7
  refine (rows_any w3 _ _ _).mono ?_
  rintro e w4' ⟨rfl, rfl⟩
  obtain ⟨w4, bm, h4, hw4, hbm⟩ := boxed w3 (mcells n n (some ⟨g, 0, none⟩) (n * n) (n * n))
  have HW4 := Lib.hid (show w3.alloc (.cells #[.int .i64 (n : Int), .int .i64 (n : Int), .slice (some ⟨g, 0, none⟩) (n * n) (n * n)] 27) = w4 from hw4)
  rw [HW4.out, hbm]
  have hap : w.heap.size = g1 ∧ w1.heap.size = g1 + 3 ∧ w1.heap.size ≤ g ∧ g < g7 ∧ bm = g7 + 1 ∧ w4.heap.size = bm + 1 := by
    have k1 := H1.out.2.2.2.2; have k2 := H2.out.2.2.2.2.form; have k3 := HG7.out; have k4 := H3.out.2.2; have k5 := h4.2.2; have k7 := HG.out
    omega
  have HAP := Lib.hid hap
  have HI0 := Lib.hid (show SymI w g1 (g1 + 1) (g1 + 1 + 1) g7 w1.heap.size g n b 0 0 w4 from
    ⟨next (next H2.out.1 H3.out.1) h4.1, (H2.out.2.1.keep H3.out.1).keep h4.1, ⟨A, l, cap, (H2.out.2.2.1.keep H3.out.1).keep h4.1, by show l = b.length - (0 + (0 - 0)); have := HL.out.2.1; omega, HL.out.2.2.1, HL.out.2.2.2.1, HA.out.below (next (next H2.out.1 H3.out.1) h4.1)⟩, (H2.out.2.2.2.1.keep H3.out.1).keep h4.1, H3.out.2.1.keep h4.1, ((H2.out.2.2.2.2.keep H3.out.1).keep h4.1).congr fun x _ k _ => by unfold symUp; rw [if_neg (by omega)]⟩)
  have H4 := Lib.hid h4
  clear hw4 hbm h4 hap
  go_wp2_with fail
  refine (wpIn_wide (n := 5)).1 ?_
  refine wpIn_rows bm n n (some ⟨g, 0, none⟩) (n * n) (n * n) rfl H4.out.2.1 (by have := HL.out; omega) rfl HL.out.2.2.2.2 (Nat.le_refl _) (fun k => k = g ∨ k = g1 + 1) (by have := HAP.out; omega)
    (fun i W => SymI w g1 (g1 + 1) (g1 + 1 + 1) g7 w1.heap.size g n b i i W) ?hI HI0.out ?hround ?hdone
  case hI =>
    intro i W W' h hf
    have hap := HAP.out
    exact h.fr_ hf (fun k e => by omega) ⟨by omega, by omega, by omega, by omega, by omega⟩
  case hround =>
    intro ln i W hi hlt
    have HLT := Lib.hid hlt
    obtain ⟨q1, hq1⟩ : ∃ q1, i * n = q1 := ⟨_, rfl⟩
    rw [show rowA (some ⟨g, 0, none⟩) n i = some ⟨g, q1, none⟩ from by rw [rowA_some (by omega), Nat.zero_add, hq1]]
    have HQ1 := Lib.hid hq1
    have hi9 : (i : Int) ≤ 1000 := by have := HL.out; omega
    have hi0 : (0 : Int) ≤ (i : Int) := by omega
    have hin : (i : Int) < (n : Int) := by omega
    clear hlt hi hq1
    gi_wp2
    refine ⟨trivial, fun W2 hi2 => ?_⟩
    have H := Lib.hid hi2
    clear hi2
    gi_wp2
    gi_loopw [9] (fun x wr => ∃ j : Nat, x = .int .i64 (j : Int) ∧ i ≤ j ∧ j ≤ n ∧ SymI w g1 (g1 + 1) (g1 + 1 + 1) g7 w1.heap.size g n b i j wr ∧ Fr (fun k => k = g ∨ k = g1 + 1) W2 wr) (fun x _ => n - (intOf x).toNat)
    case atStart => exact ⟨i, rfl, Nat.le_refl _, Nat.le_of_lt HLT.out, H.out, Fr.refl _ _⟩
    case round =>
      obtain ⟨j, rfl, hij, hj, h1, h2⟩ := hrel
      have cn : wr.cell? ⟨g1, 0, none⟩ = some (.int .i64 (n : Int)) := h1.bn.cell 0
      by_cases hjc : j < n
      · obtain ⟨Y, l', c', hb3, hl', hlc, hcm, hby⟩ := h1.b3
        have hs := offS_lt HLT.out hij hjc
        rw [← HOF.out] at hs
        have hl0 : 0 < l' := by omega
        obtain ⟨ab, off, rfl, hab, hx1⟩ := hby.at_ (k := 0) (by rw [List.length_drop]; omega)
        rw [List.getElem_drop] at hx1
        obtain ⟨x, hx⟩ : ∃ x, b.getD (offS n i + (j - i)) 0 = x := ⟨_, rfl⟩
        rw [show b[offS n i + (j - i) + 0]'(by omega) = x from by rw [← hx, List.getD_eq_getElem?_getD, List.getElem?_eq_getElem hs]; rfl, Nat.add_zero] at hx1
        have hnext : Bytes wr w.heap.size (if c' = 1 then some ⟨ab, off, none⟩ else some ⟨ab, off + 1, none⟩) (b.drop (offS n i + (j - i) + 1)) := by
          by_cases e : c' = 1
          · rw [if_pos e, List.drop_of_length_le (by omega)]; exact Bytes.nil
          · rw [if_neg e]
            have := hby.drop 1
            rwa [List.drop_drop] at this
        obtain ⟨q2, hq2⟩ : ∃ q2, j * n = q2 := ⟨_, rfl⟩
        have HQ2 := Lib.hid hq2
        have hji : (j : Int) < (n : Int) := by omega
        have hj0 : (0 : Int) ≤ (j : Int) := by omega
        have hj9 : (j : Int) ≤ 1000 := by have := HL.out; omega
        have hl0i : (0 : Int) < (l' : Int) := by omega
        have HJ := Lib.hid (And.intro h1 (And.intro h2 (And.intro hjc hij)))
        have HY := Lib.hid (And.intro hb3 (And.intro hl' (And.intro hl0 (And.intro hlc (And.intro hcm hnext)))))
        have HX := Lib.hid (And.intro hx hab)
        clear h1 h2 hj hjc hij hb3 hl' hlc hcm hby hs hx hab hnext hq2
        gi_wp2
        --HELD sym_ok10
        refine wpIn_only ?_
        refine wpIn_heldG (fun w' => Blk w' g7 27 (mcells n n (some ⟨g, 0, none⟩) (n * n) (n * n)) ∧ Blk w' (g1 + 1) 22 #[.slice (some ⟨ab, off, none⟩) l' c'] ∧ w'.cell? ⟨ab, off, none⟩ = some (.int .u8 (x.toNat : Int))) [] (by kernel_rfl) (by kernel_rfl) (fun ⟨_, _, h⟩ => h) ?hs0 ?rg0
        case hs0 =>
          exact ⟨HJ.out.1.var, HY.out.1, hx1⟩
        case rg0 =>
        intro hHeld
        refine wpAnyG_pure (i := 0) (oi := { dst := some 40, op := Op.move (Operand.tmp 8), type := 22, pos := _, after := #[], guard := none }) (v := ?_) rfl (by kernel_rfl) (by kernel_rfl) (by kernel_rfl) (by kernel_rfl) (fun _ _ _ h => h) (Or.inl ⟨by rfl, ?_⟩) (fun _ => by assumption) ?_
        rotate_left
        · intro w hSw
          try dsimp only at hSw
          go_simp
          try with_reducible rfl
        try simp only [Act.put, List.setIfInBounds_toArray, List.set_cons_zero, List.set_cons_succ]
        refine wpAnyG_pure (i := 1) (oi := { dst := some 41, op := Op.move (Operand.tmp 9), type := 3, pos := _, after := #[], guard := none }) (v := ?_) rfl (by kernel_rfl) (by kernel_rfl) (by kernel_rfl) (by kernel_rfl) (fun _ _ _ h => h) (Or.inl ⟨by rfl, ?_⟩) (fun _ => by assumption) ?_
        rotate_left
        · intro w hSw
          try dsimp only at hSw
          go_simp
          try with_reducible rfl
        try simp only [Act.put, List.setIfInBounds_toArray, List.set_cons_zero, List.set_cons_succ]
        refine wpAnyG_take (i := 2) (oi := { dst := some 42, op := Op.load 27 (Operand.tmp 6), type := 27, pos := _, after := #[], guard := none }) (v := ?_) rfl (by kernel_rfl) (by kernel_rfl) (by kernel_rfl) (by kernel_rfl) (fun _ _ _ h => h) (Or.inl ⟨by rfl, ?_⟩) (by assumption) ?_
        rotate_left
        · intro w hSw
          try dsimp only at hSw
          obtain ⟨⟨c0, c1, c2⟩, _⟩ := cells3 hSw.1
          go_simp
          try with_reducible rfl
        try simp only [Act.put, List.setIfInBounds_toArray, List.set_cons_zero, List.set_cons_succ]
        refine wpAnyG_pure (i := 3) (oi := { dst := some 43, op := Op.move (Operand.tmp 9), type := 3, pos := _, after := #[], guard := none }) (v := ?_) rfl (by kernel_rfl) (by kernel_rfl) (by kernel_rfl) (by kernel_rfl) (fun _ _ _ h => h) (Or.inl ⟨by rfl, ?_⟩) (fun _ => by assumption) ?_
        rotate_left
        · intro w hSw
          try dsimp only at hSw
          go_simp
          try with_reducible rfl
        try simp only [Act.put, List.setIfInBounds_toArray, List.set_cons_zero, List.set_cons_succ]
        refine wpAnyG_pure (i := 5) (oi := { dst := some 45, op := Op.move (Operand.tmp 7), type := 3, pos := _, after := #[{ on := 13, ground := Ground.gcOnly Departure.lateStores }], guard := none }) (v := ?_) rfl (by kernel_rfl) (by kernel_rfl) (by kernel_rfl) (by kernel_rfl) (fun _ _ _ h => h) (Or.inl ⟨by rfl, ?_⟩) (fun _ => by assumption) ?_
        rotate_left
        · intro w hSw
          try dsimp only at hSw
          go_simp
          try with_reducible rfl
        try simp only [Act.put, List.setIfInBounds_toArray, List.set_cons_zero, List.set_cons_succ]
        refine wpAnyG_take (i := 6) (oi := { dst := some 46, op := Op.load 22 (Operand.tmp 3), type := 22, pos := _, after := #[], guard := none }) (v := ?_) rfl (by kernel_rfl) (by kernel_rfl) (by kernel_rfl) (by kernel_rfl) (fun _ _ _ h => h) (Or.inl ⟨by rfl, ?_⟩) (by assumption) ?_
        rotate_left
        · intro w hSw
          try dsimp only at hSw
          have c0 : w.cell? ⟨g1 + 1, 0, none⟩ = some (.slice (some ⟨ab, off, none⟩) l' c') := hSw.2.1.cell 0
          go_simp
          try with_reducible rfl
        try simp only [Act.put, List.setIfInBounds_toArray, List.set_cons_zero, List.set_cons_succ]
        refine wpAnyG_pure (i := 7) (oi := { dst := some 47, op := Op.indexAddr 22 (Operand.tmp 46) (Operand.const (Value.int IntKind.i64 0)), type := 0, pos := _, after := #[{ on := 6, ground := Ground.data }], guard := none }) (v := ?_) rfl (by kernel_rfl) (by kernel_rfl) (by kernel_rfl) (by kernel_rfl) (fun _ _ _ h => h) (Or.inl ⟨by rfl, ?_⟩) (fun _ => by assumption) ?_
        rotate_left
        · intro w hSw
          try dsimp only at hSw
          go_simp
          try with_reducible rfl
        try simp only [Act.put, List.setIfInBounds_toArray, List.set_cons_zero, List.set_cons_succ]
        refine wpAnyG_take (i := 8) (oi := { dst := some 48, op := Op.load 5 (Operand.tmp 47), type := 5, pos := _, after := #[{ on := 7, ground := Ground.data }], guard := none }) (v := ?_) rfl (by kernel_rfl) (by kernel_rfl) (by kernel_rfl) (by kernel_rfl) (fun _ _ _ h => h) (Or.inl ⟨by rfl, ?_⟩) (by assumption) ?_
        rotate_left
        · intro w hSw
          try dsimp only at hSw
          have c0 := hSw.2.2
          go_simp
          try with_reducible rfl
        try simp only [Act.put, List.setIfInBounds_toArray, List.set_cons_zero, List.set_cons_succ]
        refine wpAnyG_take (i := 9) (oi := { dst := some 49, op := Op.load 22 (Operand.tmp 3), type := 22, pos := _, after := #[], guard := none }) (v := ?_) rfl (by kernel_rfl) (by kernel_rfl) (by kernel_rfl) (by kernel_rfl) (fun _ _ _ h => h) (Or.inl ⟨by rfl, ?_⟩) (by assumption) ?_
        rotate_left
        · intro w hSw
          try dsimp only at hSw
          have c0 : w.cell? ⟨g1 + 1, 0, none⟩ = some (.slice (some ⟨ab, off, none⟩) l' c') := hSw.2.1.cell 0
          go_simp
          try with_reducible rfl
        try simp only [Act.put, List.setIfInBounds_toArray, List.set_cons_zero, List.set_cons_succ]
        refine wpAnyG_pure (i := 10) (oi := { dst := some 50, op := Op.indexAddr 22 (Operand.tmp 49) (Operand.const (Value.int IntKind.i64 0)), type := 0, pos := _, after := #[{ on := 9, ground := Ground.data }], guard := none }) (v := ?_) rfl (by kernel_rfl) (by kernel_rfl) (by kernel_rfl) (by kernel_rfl) (fun _ _ _ h => h) (Or.inl ⟨by rfl, ?_⟩) (fun _ => by assumption) ?_
        rotate_left
        · intro w hSw
          try dsimp only at hSw
          go_simp
          try with_reducible rfl
        try simp only [Act.put, List.setIfInBounds_toArray, List.set_cons_zero, List.set_cons_succ]
        refine wpAnyG_take (i := 11) (oi := { dst := some 51, op := Op.load 5 (Operand.tmp 50), type := 5, pos := _, after := #[{ on := 10, ground := Ground.data }], guard := none }) (v := ?_) rfl (by kernel_rfl) (by kernel_rfl) (by kernel_rfl) (by kernel_rfl) (fun _ _ _ h => h) (Or.inl ⟨by rfl, ?_⟩) (by assumption) ?_
        rotate_left
        · intro w hSw
          try dsimp only at hSw
          have c0 := hSw.2.2
          go_simp
          try with_reducible rfl
        try simp only [Act.put, List.setIfInBounds_toArray, List.set_cons_zero, List.set_cons_succ]
        refine wpAnyG_one (i := 4) (o := { dst := some 44, op := Op.call { callee := Callee.value (Operand.func 49), args := #[Operand.tmp 42, Operand.tmp 43], argTypes := #[27, 3] }, type := 22, pos := _, after := #[{ on := 2, ground := Ground.data }, { on := 3, ground := Ground.data }], guard := none }) (by kernel_rfl) rfl (fun K hK => ?_)
        go_simp
        refine (row_any _ n n j (some ⟨g, 0, none⟩) (n * n) (n * n) HJ.out.2.2.1 (by have := HL.out; omega) rfl HL.out.2.2.2.2 (Nat.le_refl _)).mono ?_
        rintro e w6 ⟨rfl, hb⟩
        rw [show rowA (some ⟨g, 0, none⟩) n j = some ⟨g, q2, none⟩ from by rw [rowA_some (by have := HJ.out.2.2.1; omega), Nat.zero_add, HQ2.out]]
        have H6 := Lib.hid (next (nextN (Mem.start wr) 1) hb)
        try dsimp only
        refine hK.out _ _ ?_ (fun hHeld => ?_)
        · intro _
          try dsimp only
          exact ⟨hHeld.1.keep hb, hHeld.2.1.keep hb, (hb.cell (p := ⟨ab, off, none⟩) (World.block_lt_of_cell? _ _ hHeld.2.2)).trans hHeld.2.2⟩
        clear hK K
        try simp only [Act.put, List.setIfInBounds_toArray, List.set_cons_zero, List.set_cons_succ]
        have hHeld := hHeld (by kernel_rfl)
        refine wpAnyG_pure (i := 12) (oi := { dst := some 52, op := Op.indexAddr 22 (Operand.tmp 40) (Operand.tmp 41), type := 0, pos := _, after := #[{ on := 0, ground := Ground.data }, { on := 1, ground := Ground.data }, { on := 0, ground := Ground.phase }, { on := 1, ground := Ground.phase }, { on := 2, ground := Ground.textOnly Departure.lateStores }, { on := 3, ground := Ground.textOnly Departure.lateStores }, { on := 4, ground := Ground.phase }, { on := 5, ground := Ground.textOnly Departure.lateStores }, { on := 6, ground := Ground.phase }, { on := 7, ground := Ground.phase }, { on := 8, ground := Ground.phase }, { on := 9, ground := Ground.textOnly Departure.inlinedCapture }, { on := 10, ground := Ground.textOnly Departure.lateStoresUnsure }, { on := 11, ground := Ground.phase }], guard := none }) (v := ?_) rfl (by kernel_rfl) (by kernel_rfl) (by kernel_rfl) (by kernel_rfl) (fun _ _ _ h => h) (Or.inl ⟨by rfl, ?_⟩) (fun _ => by assumption) ?_
        rotate_left
        · intro w hSw
          try dsimp only at hSw
          go_simp
          try with_reducible rfl
        try simp only [Act.put, List.setIfInBounds_toArray, List.set_cons_zero, List.set_cons_succ]
        refine wpAnyG_one (i := 13) (o := { dst := none, op := Op.store 5 (Operand.tmp 52) (Operand.tmp 48), type := 0, pos := _, after := #[{ on := 12, ground := Ground.data }, { on := 8, ground := Ground.data }, { on := 4, ground := Ground.chain }, { on := 0, ground := Ground.phase }, { on := 1, ground := Ground.phase }, { on := 2, ground := Ground.textOnly Departure.lateStores }, { on := 3, ground := Ground.textOnly Departure.lateStores }, { on := 4, ground := Ground.phase }, { on := 5, ground := Ground.textOnly Departure.lateStores }, { on := 6, ground := Ground.phase }, { on := 7, ground := Ground.phase }, { on := 8, ground := Ground.phase }, { on := 9, ground := Ground.textOnly Departure.inlinedCapture }, { on := 10, ground := Ground.textOnly Departure.lateStoresUnsure }, { on := 11, ground := Ground.phase }], guard := none }) (by kernel_rfl) rfl (fun K hK => ?_)
        have h6 := HJ.out.1.keep H6.out
        obtain ⟨k1, k2⟩ := h6.row.at_ HLT.out HJ.out.2.2.1
        rw [HQ1.out] at k1 k2
        have hw1 := h6.row.set HLT.out HJ.out.2.2.1 x
        rw [HQ1.out] at hw1
        have HW1S := Lib.hid hw1
        clear h6 hw1
        go_simp
        try dsimp only
        refine hK.out _ _ ?_ (fun hHeld => ?_)
        · intro _
          try dsimp only
          have hap := HAP.out
          have hxa := HX.out.2
          exact ⟨hHeld.1.fr (setF (p := g) _ _ rfl _) (by omega), hHeld.2.1.fr (setF (p := g) _ _ rfl _) (by omega), cellFr (setF (p := g) _ _ rfl _) hHeld.2.2 (by omega)⟩
        clear hK K
        try simp only [Act.put, List.setIfInBounds_toArray, List.set_cons_zero, List.set_cons_succ]
        have hHeld := hHeld (by kernel_rfl)
        refine wpAnyG_pure (i := 14) (oi := { dst := some 53, op := Op.indexAddr 22 (Operand.tmp 44) (Operand.tmp 45), type := 0, pos := _, after := #[{ on := 4, ground := Ground.data }, { on := 5, ground := Ground.data }, { on := 0, ground := Ground.phase }, { on := 1, ground := Ground.phase }, { on := 2, ground := Ground.phase }, { on := 3, ground := Ground.phase }, { on := 4, ground := Ground.phase }, { on := 5, ground := Ground.phase }, { on := 6, ground := Ground.phase }, { on := 7, ground := Ground.phase }, { on := 8, ground := Ground.phase }, { on := 9, ground := Ground.phase }, { on := 10, ground := Ground.phase }, { on := 11, ground := Ground.phase }, { on := 12, ground := Ground.phase }, { on := 13, ground := Ground.phase }], guard := none }) (v := ?_) rfl (by kernel_rfl) (by kernel_rfl) (by kernel_rfl) (by kernel_rfl) (fun _ _ _ h => h) (Or.inl ⟨by rfl, ?_⟩) (fun _ => by assumption) ?_
        rotate_left
        · intro w hSw
          try dsimp only at hSw
          go_simp
          try with_reducible rfl
        try simp only [Act.put, List.setIfInBounds_toArray, List.set_cons_zero, List.set_cons_succ]
        refine wpAnyG_one (i := 15) (o := { dst := none, op := Op.store 5 (Operand.tmp 53) (Operand.tmp 51), type := 0, pos := _, after := #[{ on := 14, ground := Ground.data }, { on := 11, ground := Ground.data }, { on := 13, ground := Ground.chain }, { on := 0, ground := Ground.phase }, { on := 1, ground := Ground.phase }, { on := 2, ground := Ground.phase }, { on := 3, ground := Ground.phase }, { on := 4, ground := Ground.phase }, { on := 5, ground := Ground.phase }, { on := 6, ground := Ground.phase }, { on := 7, ground := Ground.phase }, { on := 8, ground := Ground.phase }, { on := 9, ground := Ground.phase }, { on := 10, ground := Ground.phase }, { on := 11, ground := Ground.phase }, { on := 12, ground := Ground.phase }, { on := 13, ground := Ground.phase }], guard := none }) (by kernel_rfl) rfl (fun K hK => ?_)
        obtain ⟨k3, k4⟩ := HW1S.out.at_ HJ.out.2.2.1 HLT.out
        rw [HQ2.out] at k3 k4
        go_simp
        try dsimp only
        refine hK.out _ _ ?_ (fun hHeld => ?_)
        · intro _
          try dsimp only
          have hap := HAP.out
          have hxa := HX.out.2
          exact ⟨hHeld.1.fr (setF (p := g) _ _ rfl _) (by omega), hHeld.2.1.fr (setF (p := g) _ _ rfl _) (by omega), cellFr (setF (p := g) _ _ rfl _) hHeld.2.2 (by omega)⟩
        clear hK K
        try simp only [Act.put, List.setIfInBounds_toArray, List.set_cons_zero, List.set_cons_succ]
        have hHeld := hHeld (by kernel_rfl)
        refine wpAnyG_done (by kernel_rfl) ?_ _
        refine onlyN_end ?_
        --END sym_ok10
        have hap := HAP.out
        have hbx7 := hHeld.2.1.cell 0
        have hbf7 := hHeld.2.1.frozen 0
        clear hHeld
        have HS7 := Lib.hid (SymI.step (Y' := if c' = 1 then some ⟨ab, off, none⟩ else some ⟨ab, off + 1, none⟩) (HJ.out.1.keep H6.out) HLT.out HJ.out.2.2.1 HJ.out.2.2.2 x HX.out.1 ⟨by omega, by omega⟩ ⟨by omega, by omega, by omega, by omega, by omega, by omega, by omega⟩ (HY.out.1.keep H6.out) HY.out.2.1 HY.out.2.2.1 HY.out.2.2.2.1 HY.out.2.2.2.2.1 (HY.out.2.2.2.2.2.below (H6.out.mono HJ.out.1.below.size)))
        have hf1 := setF (p := g) w6 ⟨g, q1 + j, none⟩ rfl (.int .u8 (x.toNat : Int))
        obtain ⟨w7, hw7⟩ : ∃ X : World, w6.setCell ⟨g, q1 + j, none⟩ (.int .u8 (x.toNat : Int)) = X := ⟨_, rfl⟩
        rw [HQ1.out, HQ2.out, hw7] at HS7
        rw [hw7] at hbx7 hbf7 hf1 ⊢
        have hf2 := setF (p := g) w7 ⟨g, q2 + i, none⟩ rfl (.int .u8 (x.toNat : Int))
        obtain ⟨w8, hw8⟩ : ∃ X : World, w7.setCell ⟨g, q2 + i, none⟩ (.int .u8 (x.toNat : Int)) = X := ⟨_, rfl⟩
        rw [hw8] at HS7
        rw [hw8] at hbx7 hbf7 hf2 ⊢
        have HF8 := Lib.hid ((HJ.out.2.1.trans (Fr.quiet (S := fun k => k = g ∨ k = g1 + 1) H6.out) fun _ _ h => h).trans ((hf1.trans hf2 fun _ _ h => h).mono (S' := fun k => k = g ∨ k = g1 + 1) fun k _ e => .inl e) fun _ _ h => h)
        have hl1 : (1 : Int) ≤ (l' : Int) := by have := HY.out.2.2.1; omega
        have hlc : (l' : Int) ≤ (c' : Int) := by have := HY.out.2.2.2.1; omega
        have hl1n : 1 ≤ l' := HY.out.2.2.1
        have hlcn : l' ≤ c' := HY.out.2.2.2.1
        clear hw7 hw8 hf1 hf2 hap
        by_cases e1 : c' = 1
        · rw [if_pos e1] at HS7
          subst e1
          obtain rfl : l' = 1 := by omega
          gi_wp2
          exact ⟨⟨j + 1, by simp, by have := HJ.out.2.2.2; omega, HJ.out.2.2.1, HS7.out, HF8.out.trans ((setF (p := g1 + 1) w8 _ rfl _).mono (S' := fun k => k = g ∨ k = g1 + 1) fun k _ e => .inr e) fun _ _ h => h⟩, by have := HJ.out.2.2.1; simp [intOf]; omega⟩
        · rw [if_neg e1] at HS7
          gi_wp2
          exact ⟨⟨j + 1, by simp, by have := HJ.out.2.2.2; omega, HJ.out.2.2.1, HS7.out, HF8.out.trans ((setF (p := g1 + 1) w8 _ rfl _).mono (S' := fun k => k = g ∨ k = g1 + 1) fun k _ e => .inr e) fun _ _ h => h⟩, by have := HJ.out.2.2.1; simp [intOf]; omega⟩
      · obtain rfl : n = j := by omega
        have HJ := Lib.hid (And.intro h1 h2)
        clear h1 h2 hj hjc hij
        gi_wp2
        exact ⟨HJ.out.2, HJ.out.1.congr (by show offS n i + (n - i) = offS n i + (n - i) + (i + 1 - (i + 1)); omega) fun x hx y hy => sym_next n b i x y hx hy⟩
  case hdone =>
    intro D W hD hi hK
    have H := Lib.hid hi
    have HK := Lib.hid (And.intro hD hK)
    obtain ⟨⟨c0, c1, c2⟩, _⟩ := cells3 hi.var
    obtain ⟨⟨d0, d1, d2⟩, f0, f1, f2⟩ := cells3 hi.res
    obtain ⟨W3, hW3⟩ : ∃ x : World, ((W.setCell ⟨g1 + 1 + 1, 0, none⟩ (.int .i64 (n : Int))).setCell ⟨g1 + 1 + 1, 1, none⟩ (.int .i64 (n : Int))).setCell ⟨g1 + 1 + 1, 2, none⟩ (.slice (some ⟨g, 0, none⟩) (n * n) (n * n)) = x := ⟨_, rfl⟩
    have h3 := set3 hi.res (.int .i64 (n : Int)) (.int .i64 (n : Int)) (.slice (some ⟨g, 0, none⟩) (n * n) (n * n))
    rw [hW3] at h3
    have HW3 := Lib.hid hW3
    have HR := Lib.hid h3
    clear hi hK hD h3 hW3
    go_wp2_with fail
    rw [HW3.out]
    have hap := HAP.out
    have hd := HK.out.1
    have hKD : W3.heap[D]? = some (.deferred (some [])) := by
      have h1 := (Array.getElem?_eq_some_iff.1 HK.out.2).1
      rw [HR.out.2.block D h1 (by omega)]; exact HK.out.2
    have hst := shut_still (B := 0) (.deferred none) hKD rfl (Nat.zero_le _)
    obtain ⟨⟨e0, e1, e2⟩, _⟩ := cells3 (hst.blk HR.out.1)
    refine ⟨by simp, .inl ⟨_, _, rfl, run_takeDeferred hKD, ?_⟩⟩
    refine ⟨.tuple #[.agg #[.int .i64 (n : Int), .int .i64 (n : Int), .slice (some ⟨g, 0, none⟩) (n * n) (n * n)], .int .i64 0], ?_, ?_⟩
    · simp [results, Try.results30, go_sem, e0, e1, e2]
    · have hb : Below w.heap.size w W3 := H.out.below.trans (HR.out.2.below H.out.below.size fun k e => by rw [e]; omega)
      have hw := (H.out.row.fr HR.out.2 (by omega)).congr (m' := symM n b) fun a ha b hb => by unfold symUp; rw [if_pos (.inl (by omega))]
      refine ⟨some ⟨g, 0, none⟩, n * n, rfl, Nat.le_refl _, ?_, ?_⟩
      · exact Nw.of_own (Own.down (Own.fr hw (put_fr (k := D) _) (fun g' e1 e2 => by injection e1 with e1; have := congrArg Addr.block e1; dsimp only at this; omega)) (by omega))
      · exact hb.trans ((put_fr (k := D) _).below hb.size fun k e => by rw [e]; omega)
end Go.Proofs.Ythdapoipfnnaeaa.MxW
