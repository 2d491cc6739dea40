/- Texts of a claim, one behind another. -/
import Derived.Test.YthdapoipfnnaeaaSq
import Derived.Test.YthdapoipfnnaeaaQLawMatrixOne2
import Derived.Test.YthdapoipfnnaeaaAppz
import Derived.Test.YthdapoipfnnaeaaRng2
import Derived.Test.YthdapoipfnnaeaaFdRef
/- Powers. -/
namespace Go.Proofs.Ythdapoipfnnaeaa.MxW
open Go.RowKit Go.Shelf Mem Gf FdW Mx Rng
open PlW (In)
set_option linter.unusedVariables false
attribute [local go_sem] Oper.semAt_some wide_fn

def powM (xs : List UInt8) : M := fun i k => pow (xs.getD i 0) (k : Int)
def powUp (xs : List UInt8) (i j : Nat) : M := fun x k => if x < i ∨ (x = i ∧ k < j) then powM xs x k else 0
/-- A new matrix; the field may have been made. -/
def NewMF (w : World) (p r c : Nat) (m : M) (e : Ending) (w' : World) : Prop := ∃ A cap, e = .returned (.agg #[.int .i64 (r : Int), .int .i64 (c : Int), .slice A (r * c) cap]) ∧ r * c ≤ cap ∧ Nw w.heap.size w' A (flat r c m) ∧ Fld w' p ∧ Fr (fun k => k = p) w w'
/-- While Powers goes on: its field gf, its places gb, its result g0. -/
structure PowI (w : World) (p gf gb g0 : Nat) (X : Option Addr) (n cap : Nat) (W : World) : Prop where
  fr : Fr (fun k => k = p) w W
  fld : Fld W p
  ff : Blk W gf 24 (fcellv p)
  bx : Blk W gb 22 #[.slice X n cap]
  res : Blk W g0 27 zmx
structure PowR (w : World) (p gf gb g0 g7 B g r c : Nat) (X : Option Addr) (n cap : Nat) (xs : List UInt8) (i j : Nat) (W : World) : Prop where
  st : PowI w p gf gb g0 X n cap W
  var : Blk W g7 27 (mcells r c (some ⟨g, 0, none⟩) (r * c) (r * c))
  row : Wm W B g (r * c) r c (powUp xs i j)
section
variable {w W W' : World} {p gf gb g0 g7 B g r c : Nat} {X : Option Addr} {n cap : Nat} {xs : List UInt8} {i j : Nat}
theorem PowI.keep (h : PowI w p gf gb g0 X n cap W) (hb : Below W.heap.size W W') : PowI w p gf gb g0 X n cap W' :=
  ⟨h.fr.trans (Fr.quiet (S := fun _ => False) hb) fun _ _ h => h.elim, h.fld.keep hb, h.ff.keep hb, h.bx.keep hb, h.res.keep hb⟩
theorem PowR.keep (h : PowR w p gf gb g0 g7 B g r c X n cap xs i j W) (hb : Below W.heap.size W W') : PowR w p gf gb g0 g7 B g r c X n cap xs i j W' := ⟨h.st.keep hb, h.var.keep hb, h.row.keep hb⟩
theorem PowR.fr_ {S : Nat → Prop} (h : PowR w p gf gb g0 g7 B g r c X n cap xs i j W) (hf : Fr S W W') (hS : ∀ k, S k → w.heap.size ≤ k) (hp : p < w.heap.size) (hg : ¬ S gf ∧ ¬ S gb ∧ ¬ S g0 ∧ ¬ S g7 ∧ ¬ S g) : PowR w p gf gb g0 g7 B g r c X n cap xs i j W' :=
  ⟨⟨h.st.fr.trans hf fun k hk hs => absurd (hS k hs) (by omega), h.st.fld.fr hf fun hs => absurd (hS p hs) (by omega), h.st.ff.fr hf hg.1, h.st.bx.fr hf hg.2.1, h.st.res.fr hf hg.2.2.1⟩, h.var.fr hf hg.2.2.2.1, h.row.fr hf hg.2.2.2.2⟩
theorem PowR.field (h : PowR w p gf gb g0 g7 B g r c X n cap xs i j W) (hf : Fr (fun k => k = p) W W') (hF : Fld W' p) (hg : gf ≠ p ∧ gb ≠ p ∧ g0 ≠ p ∧ g7 ≠ p ∧ g ≠ p) : PowR w p gf gb g0 g7 B g r c X n cap xs i j W' :=
  ⟨⟨h.st.fr.trans hf fun k _ hs => hs, hF, h.st.ff.fr hf hg.1, h.st.bx.fr hf hg.2.1, h.st.res.fr hf hg.2.2.1⟩, h.var.fr hf hg.2.2.2.1, h.row.fr hf hg.2.2.2.2⟩
theorem PowR.congr {i' j' : Nat} (h : PowR w p gf gb g0 g7 B g r c X n cap xs i j W) (e : ∀ x, x < r → ∀ k, k < c → powUp xs i j x k = powUp xs i' j' x k) : PowR w p gf gb g0 g7 B g r c X n cap xs i' j' W := ⟨h.st, h.var, h.row.congr e⟩
/-- One entry more. -/
theorem PowR.set (h : PowR w p gf gb g0 g7 B g r c X n cap xs i j W) (hi : i < r) (hj : j < c) (hg : w.heap.size ≤ g) (hp : p < w.heap.size) (hne : gf ≠ g ∧ gb ≠ g ∧ g0 ≠ g ∧ g7 ≠ g) : PowR w p gf gb g0 g7 B g r c X n cap xs i (j + 1) (W.setCell ⟨g, i * c + j, none⟩ (.int .u8 ((powM xs i j).toNat : Int))) := by
  have hf := setF (p := g) W ⟨g, i * c + j, none⟩ rfl (.int .u8 ((powM xs i j).toNat : Int))
  refine ⟨⟨h.st.fr.trans hf fun k hk hs => absurd hs (by omega), h.st.fld.fr hf (by omega), h.st.ff.fr hf (by omega), h.st.bx.fr hf (by omega), h.st.res.fr hf (by omega)⟩, h.var.fr hf (by omega), (h.row.set hi hj (powM xs i j)).congr fun x _ k _ => ?_⟩
  unfold upd powUp
  by_cases e : x = i ∧ k = j
  · obtain ⟨rfl, rfl⟩ := e
    rw [if_pos ⟨rfl, rfl⟩, if_pos (.inr ⟨rfl, by omega⟩)]
  · rw [if_neg e]
    by_cases e2 : x < i ∨ x = i ∧ k < j
    · rw [if_pos e2, if_pos (by omega)]
    · rw [if_neg e2, if_neg (by omega)]
end
theorem powI_start (w : World) (p : Nat) (hp : Fld w p) (X : Option Addr) (n cap : Nat) : ∃ w1, PowI w p w.heap.size (w.heap.size + 1) (w.heap.size + 1 + 1) X n cap w1 ∧ Below w.heap.size w w1 ∧ w1.heap.size = w.heap.size + 3 ∧
    ((w.alloc (.cells #[fptr (some p)] 24)).alloc (.cells #[.slice X n cap] 22)).alloc (.cells #[.int .i64 0, .int .i64 0, .slice none 0 0] 27) = w1 := by
  obtain ⟨x1, g1, h1, e1, n1⟩ := boxedT w #[fptr (some p)] 24
  obtain ⟨x2, g2, h2, e2, n2⟩ := boxedT x1 #[.slice X n cap] 22
  obtain ⟨x3, g3, h3, e3, n3⟩ := boxed x2 #[.int .i64 0, .int .i64 0, .slice none 0 0]
  have k1 := h1.2.2; have k2 := h2.2.2; have k3 := h3.2.2
  rw [n1]
  obtain rfl : g2 = g1 + 1 := by omega
  obtain rfl : g3 = g1 + 1 + 1 := by omega
  have b := next (next h1.1 h2.1) h3.1
  exact ⟨x3, ⟨Fr.quiet b, hp.keep b, (h1.2.1.keep h2.1).keep h3.1, h2.2.1.keep h3.1, h3.2.1⟩, by rw [← n1]; exact b, by omega, by rw [e1, e2, e3]⟩
set_option maxRecDepth 100000 in
set_option maxHeartbeats 4000000 in
theorem pow_ok1 (w : World) (p : Nat) (hp : Fld w p) (A : Option Addr) (xs : List UInt8) (r cap : Nat) (hn : xs.length = r) (c : Nat) (hA : In w p A xs) (hr : r ≤ 1000 ∧ c ≤ 1000) (hr0 : 0 < r) :
    Calls Try.prog 13 #[fptr (some p), .slice A r cap, .int .i64 (c : Int)] w (NewMF w p r c (powM xs)) := by
  have hl : ((r * c : Nat) : Int) ≤ 1000000000 := by
    have k1 : r * c ≤ 1000 * 1000 := Nat.mul_le_mul (by omega) (by omega)
    omega
  refine of_wide ?_
  refine callsIn_of_wp_marks Try.func13 rfl trivial ?_ rfl
  refine wpIn_wide.2 ?_
  simp only [Try.ntmps13, List.size_toArray, List.length_cons, List.length_nil, Nat.reduceAdd, Nat.reduceSub, Array.replicate_succ, Array.replicate_zero, List.push_toArray, List.append_toArray, List.nil_append, List.cons_append]
  obtain ⟨w1, h1, hb1, hs1, hw1⟩ := powI_start w p hp A r cap
  obtain ⟨gf, hgf⟩ : ∃ x, w.heap.size = x := ⟨_, rfl⟩
  rw [hgf] at h1
  have HW1 := Lib.hid hw1
  have H1 := Lib.hid (And.intro h1 (And.intro hb1 hs1))
  have HG := Lib.hid hgf
  have HA := Lib.hid hA
  have HP := Lib.hid hp
  have HRC := Lib.hid (show r ≤ 1000 ∧ c ≤ 1000 from by omega)
  have HN := Lib.hid (And.intro hn hl)
  have hr1 : (0 : Int) < (r : Int) := by omega
  have hrn : ¬ r = 0 := by omega
  have hlen : decide ((65536 : Int) < (r : Int)) = false := decide_eq_false (by omega)
  have hc1 : decide ((c : Int) < 0) = false := decide_eq_false (by omega)
  have hc2 : decide ((65536 : Int) < (c : Int)) = false := decide_eq_false (by omega)
  obtain ⟨qq, hqq⟩ : ∃ q, (16777216 : Int) / (r : Int) = q := ⟨_, rfl⟩
  have hdv : (c : Int) ≤ qq := by
    have h1 : (16777216 : Int) / (r : Int) ≥ 1000 := Int.le_ediv_of_mul_le hr1 (by omega)
    omega
  have hdn : decide (qq < (c : Int)) = false := decide_eq_false (by omega)
  clear hr
  clear hb1 hs1 hw1 hgf hA hp hn hl h1
  go_wp2_with fail
  rw [HW1.out, HG.out]
  refine (none_any w1 r c HN.out.2).mono ?_
  rintro e w2 ⟨g, rfl, ho, hb⟩
  have H2 := Lib.hid (And.intro (H1.out.1.keep hb) (And.intro (show Wm w2 w1.heap.size g (r * c) r c (fun _ _ => 0) from ho) (show w1.heap.size ≤ w2.heap.size from hb.size)))
  clear ho hb hr0
  go_wp2_with fail
  obtain ⟨w3, g7, h3, hw3, hg7⟩ := boxed w2 (mcells r c (some ⟨g, 0, none⟩) (r * c) (r * c))
  have HW3 := Lib.hid (show w2.alloc (.cells #[.int .i64 (r : Int), .int .i64 (c : Int), .slice (some ⟨g, 0, none⟩) (r * c) (r * c)] 27) = w3 from hw3)
  rw [HW3.out, hg7]
  have H3 := Lib.hid h3
  have HG7 := Lib.hid hg7
  clear hw3 h3 hg7
  refine (rows_any w3 _ _ _).mono ?_
  rintro e w4' ⟨rfl, rfl⟩
  obtain ⟨w4, bm, h4, hw4, hbm⟩ := boxed w3 (mcells r c (some ⟨g, 0, none⟩) (r * c) (r * c))
  have HW4 := Lib.hid (show w3.alloc (.cells #[.int .i64 (r : Int), .int .i64 (c : Int), .slice (some ⟨g, 0, none⟩) (r * c) (r * c)] 27) = w4 from hw4)
  rw [HW4.out, hbm]
  have hap : w.heap.size = gf ∧ w1.heap.size = gf + 3 ∧ w1.heap.size ≤ g ∧ g < g7 ∧ bm = g7 + 1 ∧ w4.heap.size = bm + 1 ∧ p < gf := by
    have k1 := H1.out.2.2; have k2 := H2.out.2.1.form; have k3 := HG7.out; have k4 := H3.out.2.2; have k5 := h4.2.2; have k6 := HP.out.lt; have k7 := HG.out
    omega
  have HAP := Lib.hid hap
  have HI0 := Lib.hid (show PowR w p gf (gf + 1) (gf + 1 + 1) g7 w1.heap.size g r c A r cap xs 0 0 w4 from ⟨(H2.out.1.keep H3.out.1).keep h4.1, H3.out.2.1.keep h4.1, ((H2.out.2.1.keep H3.out.1).keep h4.1).congr fun x _ k _ => by unfold powUp; rw [if_neg (by omega)]⟩)
  have H4 := Lib.hid h4
  clear hw4 hbm h4 hap
  go_wp2_with fail
  refine (wpIn_wide (n := 5)).1 ?_
  refine wpIn_rows bm r c (some ⟨g, 0, none⟩) (r * c) (r * c) rfl H4.out.2.1 (by have := HRC.out; omega) rfl HN.out.2 (Nat.le_refl _) (fun k => k = g ∨ k = p) (by have := HAP.out; omega)
    (fun i W => PowR w p gf (gf + 1) (gf + 1 + 1) g7 w1.heap.size g r c A r cap xs i 0 W) ?hI HI0.out ?hround ?hdone
  case hI =>
    intro i W W' h hf
    have hap := HAP.out
    exact h.fr_ hf (fun k e => by omega) HP.out.lt ⟨by omega, by omega, by omega, by omega, by omega⟩
  case hround =>
    intro l i W hi hlt
    have HLT := Lib.hid hlt
    obtain ⟨Y, hY⟩ : ∃ Y, rowA (some ⟨g, 0, none⟩) c i = Y := ⟨_, rfl⟩
    rw [hY]
    have HY := Lib.hid hY
    clear hlt hi hY
    gi_wp2
    refine ⟨trivial, fun W2 hi2 => ?_⟩
    have H := Lib.hid hi2
    clear hi2
    gi_wp2
    gi_loopw [42] (fun x wr => ∃ j : Nat, x = .int .i64 (j : Int) ∧ j ≤ c ∧ PowR w p gf (gf + 1) (gf + 1 + 1) g7 w1.heap.size g r c A r cap xs i j wr ∧ Fr (fun k => k = g ∨ k = p) W2 wr) (fun x _ => c - (intOf x).toNat)
    case atStart => exact ⟨0, rfl, Nat.zero_le _, H.out, Fr.refl _ _⟩
    case round =>
      obtain ⟨j, rfl, hj, h1, h2⟩ := hrel
      by_cases hjc : j < c
      · obtain ⟨q, hq⟩ : ∃ q, i * c = q := ⟨_, rfl⟩
        have hy := HY.out
        rw [rowA_some (by omega), Nat.zero_add, hq] at hy
        subst hy
        have HQ := Lib.hid hq
        have hji : (j : Int) < (c : Int) := by omega
        have hj0 : (0 : Int) ≤ (j : Int) := by omega
        have hj9 : (j : Int) ≤ 1000 := by have := HRC.out; omega
        have hir : (i : Int) < (r : Int) := by have := HLT.out; omega
        have hi0 : (0 : Int) ≤ (i : Int) := by omega
        obtain ⟨ab, off, hAe, hne, hx1⟩ : ∃ ab off, A = some ⟨ab, off, none⟩ ∧ ab ≠ p ∧ wr.cell? ⟨ab, off + i, none⟩ = some (.int .u8 ((xs.getD i 0).toNat : Int)) := by
          have hlt : i < xs.length := by rw [HN.out.1]; exact HLT.out
          obtain ⟨ab, off, e, _, hc⟩ := (HA.out.field h1.st.fr).1.at_ (k := i) hlt
          rw [List.getD_eq_getElem?_getD, List.getElem?_eq_getElem hlt]
          exact ⟨ab, off, e, HA.out.2 ab off e (by omega), hc⟩
        have HJ := Lib.hid (And.intro h1 (And.intro h2 (And.intro hjc (And.intro hAe hne))))
        obtain ⟨x, hx⟩ : ∃ x, xs.getD i 0 = x := ⟨_, rfl⟩
        rw [hx] at hx1
        have HX := Lib.hid hx
        clear h1 h2 hj hjc hq hx hAe hne
        gi_wp2
        --HELD pow_ok1r
        refine wpIn_only ?_
        refine wpIn_heldG (fun w' => Blk w' gf 24 (fcellv p) ∧ Blk w' (gf + 1) 22 #[.slice A r cap] ∧ w'.cell? ⟨ab, off + i, none⟩ = some (.int .u8 (x.toNat : Int))) [10] (by kernel_rfl) (by kernel_rfl) (fun ⟨_, _, h⟩ => h) ?hs0 ?rg0
        case hs0 =>
          exact ⟨HJ.out.1.st.ff, HJ.out.1.st.bx, hx1⟩
        case rg0 =>
        intro hHeld
        refine puG 0 ⟨some 45, .move (.tmp 9), 22, _, #[], none⟩ (v := ?_) ?_ (fun _ => by assumption) ?_
        rotate_left
        · intro w hSw
          try dsimp only at hSw
          go_simp
          try with_reducible rfl
        try simp only [Act.put, List.setIfInBounds_toArray, List.set_cons_zero, List.set_cons_succ]
        refine puG 1 ⟨some 46, .move (.tmp 10), 3, _, #[], none⟩ (v := ?_) ?_ (fun _ => by assumption) ?_
        rotate_left
        · intro w hSw
          try dsimp only at hSw
          go_simp
          try with_reducible rfl
        try simp only [Act.put, List.setIfInBounds_toArray, List.set_cons_zero, List.set_cons_succ]
        refine tkG 2 ⟨some 47, .load 24 (.tmp 3), 24, _, #[], none⟩ (v := ?_) ?_ (by assumption) ?_
        rotate_left
        · intro w hSw
          try dsimp only at hSw
          have c0 := hSw.1.cell 0
          simp only [fcellv, List.getElem?_toArray, List.getElem?_cons_zero] at c0
          go_simp
          try with_reducible rfl
        try simp only [Act.put, List.setIfInBounds_toArray, List.set_cons_zero, List.set_cons_succ]
        refine tkG 3 ⟨some 48, .load 22 (.tmp 4), 22, _, #[], none⟩ (v := ?_) ?_ (by assumption) ?_
        rotate_left
        · intro w hSw
          try dsimp only at hSw
          have c0 : w.cell? ⟨gf + 1, 0, none⟩ = some (.slice A r cap) := hSw.2.1.cell 0
          go_simp
          try with_reducible rfl
        try simp only [Act.put, List.setIfInBounds_toArray, List.set_cons_zero, List.set_cons_succ]
        refine puG 4 ⟨some 49, .move (.tmp 8), 3, _, #[], none⟩ (v := ?_) ?_ (fun _ => by assumption) ?_
        rotate_left
        · intro w hSw
          try dsimp only at hSw
          go_simp
          try with_reducible rfl
        try simp only [Act.put, List.setIfInBounds_toArray, List.set_cons_zero, List.set_cons_succ]
        refine puG 5 ⟨some 50, .indexAddr 22 (.tmp 48) (.tmp 49), 0, _, #[⟨3, .data⟩, ⟨4, .data⟩], none⟩ (v := ?_) ?_ (fun _ => by assumption) ?_
        rotate_left
        · intro w hSw
          try dsimp only at hSw
          have hAe := HJ.out.2.2.2.1
          go_simp
          try with_reducible rfl
        try simp only [Act.put, List.setIfInBounds_toArray, List.set_cons_zero, List.set_cons_succ]
        refine tkG 6 ⟨some 51, .load 5 (.tmp 50), 5, _, #[⟨5, .data⟩], none⟩ (v := ?_) ?_ (by assumption) ?_
        rotate_left
        · intro w hSw
          try dsimp only at hSw
          have c0 := hSw.2.2
          go_simp
          try with_reducible rfl
        try simp only [Act.put, List.setIfInBounds_toArray, List.set_cons_zero, List.set_cons_succ]
        refine puG 7 ⟨some 52, .move (.tmp 10), 3, _, #[], none⟩ (v := ?_) ?_ (fun _ => by assumption) ?_
        rotate_left
        · intro w hSw
          try dsimp only at hSw
          go_simp
          try with_reducible rfl
        try simp only [Act.put, List.setIfInBounds_toArray, List.set_cons_zero, List.set_cons_succ]
        refine onG 8 ⟨some 53, .call { callee := Callee.value (Operand.func 45), args := #[.tmp 47, .tmp 51, .tmp 52], argTypes := #[24, 5, 3] }, 5, _, #[⟨2, .data⟩, ⟨6, .data⟩, ⟨7, .data⟩], none⟩ (fun K hK => ?_)
        go_simp
        refine (pow_any _ (some p) (FldR.some (HJ.out.1.st.fld.keep (nextN (Mem.start wr) 1))) _ x rfl (j : Int)).mono ?_
        rintro e w6 ⟨rfl, hF, hf⟩
        have hap := HAP.out
        have hf2 : Fr (fun k => k = p) wr w6 := (Fr.quiet (nextN (Mem.start wr) 1)).trans hf (fun _ _ h => by injection h with h; exact h.symm)
        have H6 := Lib.hid (And.intro (HJ.out.1.field hf2 (hF p rfl) (by omega)) hf2)
        clear hF hf hf2 hap
        try dsimp only
        refine hK.out _ _ ?_ (fun hHeld => ?_)
        · intro _
          try dsimp only
          exact ⟨H6.out.1.st.ff, H6.out.1.st.bx, cellFr H6.out.2 hx1 HJ.out.2.2.2.2⟩
        clear hK K
        try simp only [Act.put, List.setIfInBounds_toArray, List.set_cons_zero, List.set_cons_succ]
        have hHeld := hHeld (by kernel_rfl)
        refine puG 9 ⟨some 54, .indexAddr 22 (.tmp 45) (.tmp 46), 0, _, #[⟨0, .data⟩, ⟨1, .data⟩, ⟨0, .phase⟩, ⟨1, .phase⟩, ⟨2, .phase⟩, ⟨3, .phase⟩, ⟨4, .phase⟩, ⟨5, .phase⟩, ⟨6, .phase⟩, ⟨7, .phase⟩, ⟨8, .phase⟩], none⟩ (v := ?_) ?_ (fun _ => by assumption) ?_
        rotate_left
        · intro w hSw
          try dsimp only at hSw
          go_simp
          try with_reducible rfl
        try simp only [Act.put, List.setIfInBounds_toArray, List.set_cons_zero, List.set_cons_succ]
        refine onG 10 ⟨none, .store 5 (.tmp 54) (.tmp 53), 0, _, #[⟨9, .data⟩, ⟨8, .data⟩, ⟨8, .chain⟩, ⟨0, .phase⟩, ⟨1, .phase⟩, ⟨2, .phase⟩, ⟨3, .phase⟩, ⟨4, .phase⟩, ⟨5, .phase⟩, ⟨6, .phase⟩, ⟨7, .phase⟩, ⟨8, .phase⟩], none⟩ (fun K hK => ?_)
        obtain ⟨k1, k2⟩ := H6.out.1.row.at_ HLT.out HJ.out.2.2.1
        rw [HQ.out] at k1 k2
        go_simp
        try dsimp only
        refine hK.out _ _ ?_ (fun hHeld => ?_)
        · exact fun h => (st_no (by kernel_rfl) h).elim
        clear hK K
        try simp only [Act.put, List.setIfInBounds_toArray, List.set_cons_zero, List.set_cons_succ]
        clear hHeld
        refine wpAnyG_done (by kernel_rfl) ?_ _
        refine onlyN_end ?_
        --END pow_ok1r
        gi_wp2
        go_roundw
        case rel =>
          have hs := H6.out.1.set HLT.out HJ.out.2.2.1 (by have := HAP.out; omega) HP.out.lt (by have := HAP.out; omega)
          rw [HQ.out, show powM xs i j = pow x (j : Int) from by rw [← HX.out]; rfl] at hs
          have hfr := (HJ.out.2.1.trans (H6.out.2.mono (S' := fun k => k = g ∨ k = p) fun k _ e => .inr e) fun _ _ h => h).trans ((setF (p := g) w6 ⟨g, q + j, none⟩ rfl (.int .u8 ((pow x (j : Int)).toNat : Int))).mono (S' := fun k => k = g ∨ k = p) fun k _ e => .inl e) fun _ _ h => h
          exact ⟨j + 1, by simp, HJ.out.2.2.1, hs, hfr⟩
        case measure => simp [intOf]; omega
      · obtain rfl : c = j := by omega
        have HJ := Lib.hid (And.intro h1 h2)
        clear h1 h2 hj
        gi_wp2
        exact ⟨HJ.out.2, HJ.out.1.congr fun x _ k hk => by
          unfold powUp
          by_cases e : x < i ∨ x = i ∧ k < c
          · rw [if_pos e, if_pos (by omega)]
          · rw [if_neg e, if_neg (by omega)]⟩
  case hdone =>
    intro D W hD hi hK
    have H := Lib.hid hi
    have HK := Lib.hid (And.intro hD hK)
    obtain ⟨⟨c0, c1, c2⟩, _⟩ := cells3 hi.var
    obtain ⟨⟨d0, d1, d2⟩, f0, f1, f2⟩ := cells3 hi.st.res
    obtain ⟨W3, hW3⟩ : ∃ x : World, ((W.setCell ⟨gf + 1 + 1, 0, none⟩ (.int .i64 (r : Int))).setCell ⟨gf + 1 + 1, 1, none⟩ (.int .i64 (c : Int))).setCell ⟨gf + 1 + 1, 2, none⟩ (.slice (some ⟨g, 0, none⟩) (r * c) (r * c)) = x := ⟨_, rfl⟩
    have h3 := set3 hi.st.res (.int .i64 (r : Int)) (.int .i64 (c : Int)) (.slice (some ⟨g, 0, none⟩) (r * c) (r * c))
    rw [hW3] at h3
    have HW3 := Lib.hid hW3
    have HR := Lib.hid h3
    clear hi hK hD h3 hW3
    go_wp2_with fail
    rw [HW3.out]
    have hap := HAP.out
    have hd := HK.out.1
    have hKD : W3.heap[D]? = some (.deferred (some [])) := by
      have h1 := (Array.getElem?_eq_some_iff.1 HK.out.2).1
      rw [HR.out.2.block D h1 (by omega)]; exact HK.out.2
    have hst := shut_still (B := 0) (.deferred none) hKD rfl (Nat.zero_le _)
    obtain ⟨⟨e0, e1, e2⟩, _⟩ := cells3 (hst.blk HR.out.1)
    refine ⟨by simp, .inl ⟨_, _, rfl, run_takeDeferred hKD, ?_⟩⟩
    refine ⟨.agg #[.int .i64 (r : Int), .int .i64 (c : Int), .slice (some ⟨g, 0, none⟩) (r * c) (r * c)], ?_, ?_⟩
    · simp [results, Try.results13, go_sem, e0, e1, e2]
    · have hw := (H.out.row.fr HR.out.2 (by omega)).congr (m' := powM xs) fun x hx k _ => by unfold powUp; rw [if_pos (.inl hx)]
      refine ⟨some ⟨g, 0, none⟩, r * c, rfl, Nat.le_refl _, ?_, ?_, ?_⟩
      · exact Nw.of_own (Own.down (Own.fr hw (put_fr (k := D) _) (fun g' e1 e2 => by injection e1 with e1; have := congrArg Addr.block e1; dsimp only at this; omega)) (by omega))
      · exact (H.out.st.fld.fr HR.out.2 (by omega)).fr (put_fr (k := D) _) (by omega)
      · exact (H.out.st.fr.trans HR.out.2 fun k hk e => absurd hk (by omega)).trans (put_fr (k := D) _) fun k hk e => absurd hk (by omega)
set_option maxRecDepth 100000 in
set_option maxHeartbeats 4000000 in
theorem pow_ok2 (w : World) (p : Nat) (hp : Fld w p) (A : Option Addr) (xs : List UInt8) (r cap : Nat) (hn : xs.length = r) (c : Nat) (hA : In w p A xs) (hr : r ≤ 1000 ∧ c ≤ 1000) (hr0 : r = 0) :
    Calls Try.prog 13 #[fptr (some p), .slice A r cap, .int .i64 (c : Int)] w (NewMF w p r c (powM xs)) := by
  have hl : ((r * c : Nat) : Int) ≤ 1000000000 := by
    have k1 : r * c ≤ 1000 * 1000 := Nat.mul_le_mul (by omega) (by omega)
    omega
  refine of_wide ?_
  refine callsIn_of_wp_marks Try.func13 rfl trivial ?_ rfl
  refine wpIn_wide.2 ?_
  simp only [Try.ntmps13, List.size_toArray, List.length_cons, List.length_nil, Nat.reduceAdd, Nat.reduceSub, Array.replicate_succ, Array.replicate_zero, List.push_toArray, List.append_toArray, List.nil_append, List.cons_append]
  obtain ⟨w1, h1, hb1, hs1, hw1⟩ := powI_start w p hp A r cap
  obtain ⟨gf, hgf⟩ : ∃ x, w.heap.size = x := ⟨_, rfl⟩
  rw [hgf] at h1
  have HW1 := Lib.hid hw1
  have H1 := Lib.hid (And.intro h1 (And.intro hb1 hs1))
  have HG := Lib.hid hgf
  have HA := Lib.hid hA
  have HP := Lib.hid hp
  have HRC := Lib.hid (show r ≤ 1000 ∧ c ≤ 1000 from by omega)
  have HN := Lib.hid (And.intro hn hl)
  have hr1 : decide ((0 : Int) < (r : Int)) = false := decide_eq_false (by omega)
  have hr2 : decide (0 < r) = false := decide_eq_false (by omega)
  have hlen : decide ((65536 : Int) < (r : Int)) = false := decide_eq_false (by omega)
  have hc1 : decide ((c : Int) < 0) = false := decide_eq_false (by omega)
  have hc2 : decide ((65536 : Int) < (c : Int)) = false := decide_eq_false (by omega)
  clear hr hr0
  clear hb1 hs1 hw1 hgf hA hp hn hl h1
  go_wp2_with fail
  rw [HW1.out, HG.out]
  refine (none_any w1 r c HN.out.2).mono ?_
  rintro e w2 ⟨g, rfl, ho, hb⟩
  have H2 := Lib.hid (And.intro (H1.out.1.keep hb) (And.intro (show Wm w2 w1.heap.size g (r * c) r c (fun _ _ => 0) from ho) (show w1.heap.size ≤ w2.heap.size from hb.size)))
  clear ho hb 
  go_wp2_with fail
  obtain ⟨w3, g7, h3, hw3, hg7⟩ := boxed w2 (mcells r c (some ⟨g, 0, none⟩) (r * c) (r * c))
  have HW3 := Lib.hid (show w2.alloc (.cells #[.int .i64 (r : Int), .int .i64 (c : Int), .slice (some ⟨g, 0, none⟩) (r * c) (r * c)] 27) = w3 from hw3)
  rw [HW3.out, hg7]
  have H3 := Lib.hid h3
  have HG7 := Lib.hid hg7
  clear hw3 h3 hg7
  refine (rows_any w3 _ _ _).mono ?_
  rintro e w4' ⟨rfl, rfl⟩
  obtain ⟨w4, bm, h4, hw4, hbm⟩ := boxed w3 (mcells r c (some ⟨g, 0, none⟩) (r * c) (r * c))
  have HW4 := Lib.hid (show w3.alloc (.cells #[.int .i64 (r : Int), .int .i64 (c : Int), .slice (some ⟨g, 0, none⟩) (r * c) (r * c)] 27) = w4 from hw4)
  rw [HW4.out, hbm]
  have hap : w.heap.size = gf ∧ w1.heap.size = gf + 3 ∧ w1.heap.size ≤ g ∧ g < g7 ∧ bm = g7 + 1 ∧ w4.heap.size = bm + 1 ∧ p < gf := by
    have k1 := H1.out.2.2; have k2 := H2.out.2.1.form; have k3 := HG7.out; have k4 := H3.out.2.2; have k5 := h4.2.2; have k6 := HP.out.lt; have k7 := HG.out
    omega
  have HAP := Lib.hid hap
  have HI0 := Lib.hid (show PowR w p gf (gf + 1) (gf + 1 + 1) g7 w1.heap.size g r c A r cap xs 0 0 w4 from ⟨(H2.out.1.keep H3.out.1).keep h4.1, H3.out.2.1.keep h4.1, ((H2.out.2.1.keep H3.out.1).keep h4.1).congr fun x _ k _ => by unfold powUp; rw [if_neg (by omega)]⟩)
  have H4 := Lib.hid h4
  clear hw4 hbm h4 hap
  go_wp2_with fail
  refine (wpIn_wide (n := 5)).1 ?_
  refine wpIn_rows bm r c (some ⟨g, 0, none⟩) (r * c) (r * c) rfl H4.out.2.1 (by have := HRC.out; omega) rfl HN.out.2 (Nat.le_refl _) (fun k => k = g ∨ k = p) (by have := HAP.out; omega)
    (fun i W => PowR w p gf (gf + 1) (gf + 1 + 1) g7 w1.heap.size g r c A r cap xs i 0 W) ?hI HI0.out ?hround ?hdone
  case hI =>
    intro i W W' h hf
    have hap := HAP.out
    exact h.fr_ hf (fun k e => by omega) HP.out.lt ⟨by omega, by omega, by omega, by omega, by omega⟩
  case hround =>
    intro l i W hi hlt
    have HLT := Lib.hid hlt
    obtain ⟨Y, hY⟩ : ∃ Y, rowA (some ⟨g, 0, none⟩) c i = Y := ⟨_, rfl⟩
    rw [hY]
    have HY := Lib.hid hY
    clear hlt hi hY
    gi_wp2
    refine ⟨trivial, fun W2 hi2 => ?_⟩
    have H := Lib.hid hi2
    clear hi2
    gi_wp2
    gi_loopw [42] (fun x wr => ∃ j : Nat, x = .int .i64 (j : Int) ∧ j ≤ c ∧ PowR w p gf (gf + 1) (gf + 1 + 1) g7 w1.heap.size g r c A r cap xs i j wr ∧ Fr (fun k => k = g ∨ k = p) W2 wr) (fun x _ => c - (intOf x).toNat)
    case atStart => exact ⟨0, rfl, Nat.zero_le _, H.out, Fr.refl _ _⟩
    case round =>
      obtain ⟨j, rfl, hj, h1, h2⟩ := hrel
      by_cases hjc : j < c
      · obtain ⟨q, hq⟩ : ∃ q, i * c = q := ⟨_, rfl⟩
        have hy := HY.out
        rw [rowA_some (by omega), Nat.zero_add, hq] at hy
        subst hy
        have HQ := Lib.hid hq
        have hji : (j : Int) < (c : Int) := by omega
        have hj0 : (0 : Int) ≤ (j : Int) := by omega
        have hj9 : (j : Int) ≤ 1000 := by have := HRC.out; omega
        have hir : (i : Int) < (r : Int) := by have := HLT.out; omega
        have hi0 : (0 : Int) ≤ (i : Int) := by omega
        obtain ⟨ab, off, hAe, hne, hx1⟩ : ∃ ab off, A = some ⟨ab, off, none⟩ ∧ ab ≠ p ∧ wr.cell? ⟨ab, off + i, none⟩ = some (.int .u8 ((xs.getD i 0).toNat : Int)) := by
          have hlt : i < xs.length := by rw [HN.out.1]; exact HLT.out
          obtain ⟨ab, off, e, _, hc⟩ := (HA.out.field h1.st.fr).1.at_ (k := i) hlt
          rw [List.getD_eq_getElem?_getD, List.getElem?_eq_getElem hlt]
          exact ⟨ab, off, e, HA.out.2 ab off e (by omega), hc⟩
        have HJ := Lib.hid (And.intro h1 (And.intro h2 (And.intro hjc (And.intro hAe hne))))
        obtain ⟨x, hx⟩ : ∃ x, xs.getD i 0 = x := ⟨_, rfl⟩
        rw [hx] at hx1
        have HX := Lib.hid hx
        clear h1 h2 hj hjc hq hx hAe hne
        gi_wp2
        --HELD pow_ok2r
        refine wpIn_only ?_
        refine wpIn_heldG (fun w' => Blk w' gf 24 (fcellv p) ∧ Blk w' (gf + 1) 22 #[.slice A r cap] ∧ w'.cell? ⟨ab, off + i, none⟩ = some (.int .u8 (x.toNat : Int))) [10] (by kernel_rfl) (by kernel_rfl) (fun ⟨_, _, h⟩ => h) ?hs0 ?rg0
        case hs0 =>
          exact ⟨HJ.out.1.st.ff, HJ.out.1.st.bx, hx1⟩
        case rg0 =>
        intro hHeld
        refine puG 0 ⟨some 45, .move (.tmp 9), 22, _, #[], none⟩ (v := ?_) ?_ (fun _ => by assumption) ?_
        rotate_left
        · intro w hSw
          try dsimp only at hSw
          go_simp
          try with_reducible rfl
        try simp only [Act.put, List.setIfInBounds_toArray, List.set_cons_zero, List.set_cons_succ]
        refine puG 1 ⟨some 46, .move (.tmp 10), 3, _, #[], none⟩ (v := ?_) ?_ (fun _ => by assumption) ?_
        rotate_left
        · intro w hSw
          try dsimp only at hSw
          go_simp
          try with_reducible rfl
        try simp only [Act.put, List.setIfInBounds_toArray, List.set_cons_zero, List.set_cons_succ]
        refine tkG 2 ⟨some 47, .load 24 (.tmp 3), 24, _, #[], none⟩ (v := ?_) ?_ (by assumption) ?_
        rotate_left
        · intro w hSw
          try dsimp only at hSw
          have c0 := hSw.1.cell 0
          simp only [fcellv, List.getElem?_toArray, List.getElem?_cons_zero] at c0
          go_simp
          try with_reducible rfl
        try simp only [Act.put, List.setIfInBounds_toArray, List.set_cons_zero, List.set_cons_succ]
        refine tkG 3 ⟨some 48, .load 22 (.tmp 4), 22, _, #[], none⟩ (v := ?_) ?_ (by assumption) ?_
        rotate_left
        · intro w hSw
          try dsimp only at hSw
          have c0 : w.cell? ⟨gf + 1, 0, none⟩ = some (.slice A r cap) := hSw.2.1.cell 0
          go_simp
          try with_reducible rfl
        try simp only [Act.put, List.setIfInBounds_toArray, List.set_cons_zero, List.set_cons_succ]
        refine puG 4 ⟨some 49, .move (.tmp 8), 3, _, #[], none⟩ (v := ?_) ?_ (fun _ => by assumption) ?_
        rotate_left
        · intro w hSw
          try dsimp only at hSw
          go_simp
          try with_reducible rfl
        try simp only [Act.put, List.setIfInBounds_toArray, List.set_cons_zero, List.set_cons_succ]
        refine puG 5 ⟨some 50, .indexAddr 22 (.tmp 48) (.tmp 49), 0, _, #[⟨3, .data⟩, ⟨4, .data⟩], none⟩ (v := ?_) ?_ (fun _ => by assumption) ?_
        rotate_left
        · intro w hSw
          try dsimp only at hSw
          have hAe := HJ.out.2.2.2.1
          go_simp
          try with_reducible rfl
        try simp only [Act.put, List.setIfInBounds_toArray, List.set_cons_zero, List.set_cons_succ]
        refine tkG 6 ⟨some 51, .load 5 (.tmp 50), 5, _, #[⟨5, .data⟩], none⟩ (v := ?_) ?_ (by assumption) ?_
        rotate_left
        · intro w hSw
          try dsimp only at hSw
          have c0 := hSw.2.2
          go_simp
          try with_reducible rfl
        try simp only [Act.put, List.setIfInBounds_toArray, List.set_cons_zero, List.set_cons_succ]
        refine puG 7 ⟨some 52, .move (.tmp 10), 3, _, #[], none⟩ (v := ?_) ?_ (fun _ => by assumption) ?_
        rotate_left
        · intro w hSw
          try dsimp only at hSw
          go_simp
          try with_reducible rfl
        try simp only [Act.put, List.setIfInBounds_toArray, List.set_cons_zero, List.set_cons_succ]
        refine onG 8 ⟨some 53, .call { callee := Callee.value (Operand.func 45), args := #[.tmp 47, .tmp 51, .tmp 52], argTypes := #[24, 5, 3] }, 5, _, #[⟨2, .data⟩, ⟨6, .data⟩, ⟨7, .data⟩], none⟩ (fun K hK => ?_)
        go_simp
        refine (pow_any _ (some p) (FldR.some (HJ.out.1.st.fld.keep (nextN (Mem.start wr) 1))) _ x rfl (j : Int)).mono ?_
        rintro e w6 ⟨rfl, hF, hf⟩
        have hap := HAP.out
        have hf2 : Fr (fun k => k = p) wr w6 := (Fr.quiet (nextN (Mem.start wr) 1)).trans hf (fun _ _ h => by injection h with h; exact h.symm)
        have H6 := Lib.hid (And.intro (HJ.out.1.field hf2 (hF p rfl) (by omega)) hf2)
        clear hF hf hf2 hap
        try dsimp only
        refine hK.out _ _ ?_ (fun hHeld => ?_)
        · intro _
          try dsimp only
          exact ⟨H6.out.1.st.ff, H6.out.1.st.bx, cellFr H6.out.2 hx1 HJ.out.2.2.2.2⟩
        clear hK K
        try simp only [Act.put, List.setIfInBounds_toArray, List.set_cons_zero, List.set_cons_succ]
        have hHeld := hHeld (by kernel_rfl)
        refine puG 9 ⟨some 54, .indexAddr 22 (.tmp 45) (.tmp 46), 0, _, #[⟨0, .data⟩, ⟨1, .data⟩, ⟨0, .phase⟩, ⟨1, .phase⟩, ⟨2, .phase⟩, ⟨3, .phase⟩, ⟨4, .phase⟩, ⟨5, .phase⟩, ⟨6, .phase⟩, ⟨7, .phase⟩, ⟨8, .phase⟩], none⟩ (v := ?_) ?_ (fun _ => by assumption) ?_
        rotate_left
        · intro w hSw
          try dsimp only at hSw
          go_simp
          try with_reducible rfl
        try simp only [Act.put, List.setIfInBounds_toArray, List.set_cons_zero, List.set_cons_succ]
        refine onG 10 ⟨none, .store 5 (.tmp 54) (.tmp 53), 0, _, #[⟨9, .data⟩, ⟨8, .data⟩, ⟨8, .chain⟩, ⟨0, .phase⟩, ⟨1, .phase⟩, ⟨2, .phase⟩, ⟨3, .phase⟩, ⟨4, .phase⟩, ⟨5, .phase⟩, ⟨6, .phase⟩, ⟨7, .phase⟩, ⟨8, .phase⟩], none⟩ (fun K hK => ?_)
        obtain ⟨k1, k2⟩ := H6.out.1.row.at_ HLT.out HJ.out.2.2.1
        rw [HQ.out] at k1 k2
        go_simp
        try dsimp only
        refine hK.out _ _ ?_ (fun hHeld => ?_)
        · exact fun h => (st_no (by kernel_rfl) h).elim
        clear hK K
        try simp only [Act.put, List.setIfInBounds_toArray, List.set_cons_zero, List.set_cons_succ]
        clear hHeld
        refine wpAnyG_done (by kernel_rfl) ?_ _
        refine onlyN_end ?_
        --END pow_ok2r
        gi_wp2
        go_roundw
        case rel =>
          have hs := H6.out.1.set HLT.out HJ.out.2.2.1 (by have := HAP.out; omega) HP.out.lt (by have := HAP.out; omega)
          rw [HQ.out, show powM xs i j = pow x (j : Int) from by rw [← HX.out]; rfl] at hs
          have hfr := (HJ.out.2.1.trans (H6.out.2.mono (S' := fun k => k = g ∨ k = p) fun k _ e => .inr e) fun _ _ h => h).trans ((setF (p := g) w6 ⟨g, q + j, none⟩ rfl (.int .u8 ((pow x (j : Int)).toNat : Int))).mono (S' := fun k => k = g ∨ k = p) fun k _ e => .inl e) fun _ _ h => h
          exact ⟨j + 1, by simp, HJ.out.2.2.1, hs, hfr⟩
        case measure => simp [intOf]; omega
      · obtain rfl : c = j := by omega
        have HJ := Lib.hid (And.intro h1 h2)
        clear h1 h2 hj
        gi_wp2
        exact ⟨HJ.out.2, HJ.out.1.congr fun x _ k hk => by
          unfold powUp
          by_cases e : x < i ∨ x = i ∧ k < c
          · rw [if_pos e, if_pos (by omega)]
          · rw [if_neg e, if_neg (by omega)]⟩
  case hdone =>
    intro D W hD hi hK
    have H := Lib.hid hi
    have HK := Lib.hid (And.intro hD hK)
    obtain ⟨⟨c0, c1, c2⟩, _⟩ := cells3 hi.var
    obtain ⟨⟨d0, d1, d2⟩, f0, f1, f2⟩ := cells3 hi.st.res
    obtain ⟨W3, hW3⟩ : ∃ x : World, ((W.setCell ⟨gf + 1 + 1, 0, none⟩ (.int .i64 (r : Int))).setCell ⟨gf + 1 + 1, 1, none⟩ (.int .i64 (c : Int))).setCell ⟨gf + 1 + 1, 2, none⟩ (.slice (some ⟨g, 0, none⟩) (r * c) (r * c)) = x := ⟨_, rfl⟩
    have h3 := set3 hi.st.res (.int .i64 (r : Int)) (.int .i64 (c : Int)) (.slice (some ⟨g, 0, none⟩) (r * c) (r * c))
    rw [hW3] at h3
    have HW3 := Lib.hid hW3
    have HR := Lib.hid h3
    clear hi hK hD h3 hW3
    go_wp2_with fail
    rw [HW3.out]
    have hap := HAP.out
    have hd := HK.out.1
    have hKD : W3.heap[D]? = some (.deferred (some [])) := by
      have h1 := (Array.getElem?_eq_some_iff.1 HK.out.2).1
      rw [HR.out.2.block D h1 (by omega)]; exact HK.out.2
    have hst := shut_still (B := 0) (.deferred none) hKD rfl (Nat.zero_le _)
    obtain ⟨⟨e0, e1, e2⟩, _⟩ := cells3 (hst.blk HR.out.1)
    refine ⟨by simp, .inl ⟨_, _, rfl, run_takeDeferred hKD, ?_⟩⟩
    refine ⟨.agg #[.int .i64 (r : Int), .int .i64 (c : Int), .slice (some ⟨g, 0, none⟩) (r * c) (r * c)], ?_, ?_⟩
    · simp [results, Try.results13, go_sem, e0, e1, e2]
    · have hw := (H.out.row.fr HR.out.2 (by omega)).congr (m' := powM xs) fun x hx k _ => by unfold powUp; rw [if_pos (.inl hx)]
      refine ⟨some ⟨g, 0, none⟩, r * c, rfl, Nat.le_refl _, ?_, ?_, ?_⟩
      · exact Nw.of_own (Own.down (Own.fr hw (put_fr (k := D) _) (fun g' e1 e2 => by injection e1 with e1; have := congrArg Addr.block e1; dsimp only at this; omega)) (by omega))
      · exact (H.out.st.fld.fr HR.out.2 (by omega)).fr (put_fr (k := D) _) (by omega)
      · exact (H.out.st.fr.trans HR.out.2 fun k hk e => absurd hk (by omega)).trans (put_fr (k := D) _) fun k hk e => absurd hk (by omega)
set_option maxRecDepth 100000 in
set_option maxHeartbeats 4000000 in
theorem pow_ok3 (w : World) (p : Nat) (hp : Fld w p) (A : Option Addr) (xs : List UInt8) (r cap : Nat) (hn : xs.length = r) (cols : Int) (hA : In w p A xs) (hr : r ≤ 1000) (hc : cols < 0) :
    Calls Try.prog 13 #[fptr (some p), .slice A r cap, .int .i64 cols] w (NewMF w p r 0 (powM xs)) := by
  have hl : ((r * 0 : Nat) : Int) ≤ 1000000000 := by
    have k1 : r * 0 ≤ 1000 * 1000 := Nat.mul_le_mul (by omega) (by omega)
    omega
  refine of_wide ?_
  refine callsIn_of_wp_marks Try.func13 rfl trivial ?_ rfl
  refine wpIn_wide.2 ?_
  simp only [Try.ntmps13, List.size_toArray, List.length_cons, List.length_nil, Nat.reduceAdd, Nat.reduceSub, Array.replicate_succ, Array.replicate_zero, List.push_toArray, List.append_toArray, List.nil_append, List.cons_append]
  obtain ⟨w1, h1, hb1, hs1, hw1⟩ := powI_start w p hp A r cap
  obtain ⟨gf, hgf⟩ : ∃ x, w.heap.size = x := ⟨_, rfl⟩
  rw [hgf] at h1
  have HW1 := Lib.hid hw1
  have H1 := Lib.hid (And.intro h1 (And.intro hb1 hs1))
  have HG := Lib.hid hgf
  have HA := Lib.hid hA
  have HP := Lib.hid hp
  have HRC := Lib.hid (show r ≤ 1000 ∧ 0 ≤ 1000 from by omega)
  have HN := Lib.hid (And.intro hn hl)
  have hlen : decide ((65536 : Int) < (r : Int)) = false := decide_eq_false (by omega)
  have hc1 : decide (cols < 0) = true := decide_eq_true hc
  clear hr hc
  clear hb1 hs1 hw1 hgf hA hp hn hl h1
  go_wp2_with fail
  rw [HW1.out, HG.out]
  refine (none_any w1 r 0 HN.out.2).mono ?_
  rintro e w2 ⟨g, rfl, ho, hb⟩
  have H2 := Lib.hid (And.intro (H1.out.1.keep hb) (And.intro (show Wm w2 w1.heap.size g (r * 0) r 0 (fun _ _ => 0) from ho) (show w1.heap.size ≤ w2.heap.size from hb.size)))
  clear ho hb hlen hc1
  go_wp2_with fail
  obtain ⟨w3, g7, h3, hw3, hg7⟩ := boxed w2 (mcells r 0 (some ⟨g, 0, none⟩) (0) (0))
  have HW3 := Lib.hid (show w2.alloc (.cells #[.int .i64 (r : Int), .int .i64 0, .slice (some ⟨g, 0, none⟩) (0) (0)] 27) = w3 from hw3)
  rw [HW3.out, hg7]
  have H3 := Lib.hid h3
  have HG7 := Lib.hid hg7
  clear hw3 h3 hg7
  refine (rows_any w3 _ _ _).mono ?_
  rintro e w4' ⟨rfl, rfl⟩
  obtain ⟨w4, bm, h4, hw4, hbm⟩ := boxed w3 (mcells r 0 (some ⟨g, 0, none⟩) (0) (0))
  have HW4 := Lib.hid (show w3.alloc (.cells #[.int .i64 (r : Int), .int .i64 0, .slice (some ⟨g, 0, none⟩) (0) (0)] 27) = w4 from hw4)
  rw [HW4.out, hbm]
  have hap : w.heap.size = gf ∧ w1.heap.size = gf + 3 ∧ w1.heap.size ≤ g ∧ g < g7 ∧ bm = g7 + 1 ∧ w4.heap.size = bm + 1 ∧ p < gf := by
    have k1 := H1.out.2.2; have k2 := H2.out.2.1.form; have k3 := HG7.out; have k4 := H3.out.2.2; have k5 := h4.2.2; have k6 := HP.out.lt; have k7 := HG.out
    omega
  have HAP := Lib.hid hap
  have HI0 := Lib.hid (show PowR w p gf (gf + 1) (gf + 1 + 1) g7 w1.heap.size g r 0 A r cap xs 0 0 w4 from ⟨(H2.out.1.keep H3.out.1).keep h4.1, H3.out.2.1.keep h4.1, ((H2.out.2.1.keep H3.out.1).keep h4.1).congr fun x _ k _ => by unfold powUp; rw [if_neg (by omega)]⟩)
  have H4 := Lib.hid h4
  clear hw4 hbm h4 hap
  go_wp2_with fail
  refine (wpIn_wide (n := 5)).1 ?_
  refine wpIn_rows bm r 0 (some ⟨g, 0, none⟩) (0) (0) rfl H4.out.2.1 (by have := HRC.out; omega) rfl HN.out.2 (Nat.le_refl _) (fun k => k = g ∨ k = p) (by have := HAP.out; omega)
    (fun i W => PowR w p gf (gf + 1) (gf + 1 + 1) g7 w1.heap.size g r 0 A r cap xs i 0 W) ?hI HI0.out ?hround ?hdone
  case hI =>
    intro i W W' h hf
    have hap := HAP.out
    exact h.fr_ hf (fun k e => by omega) HP.out.lt ⟨by omega, by omega, by omega, by omega, by omega⟩
  case hround =>
    intro l i W hi hlt
    have HLT := Lib.hid hlt
    obtain ⟨Y, hY⟩ : ∃ Y, rowA (some ⟨g, 0, none⟩) 0 i = Y := ⟨_, rfl⟩
    rw [hY]
    have HY := Lib.hid hY
    clear hlt hi hY
    gi_wp2
    refine ⟨trivial, fun W2 hi2 => ?_⟩
    have H := Lib.hid hi2
    clear hi2
    gi_wp2
    gi_loopw [42] (fun x wr => ∃ j : Nat, x = .int .i64 (j : Int) ∧ j ≤ 0 ∧ PowR w p gf (gf + 1) (gf + 1 + 1) g7 w1.heap.size g r 0 A r cap xs i j wr ∧ Fr (fun k => k = g ∨ k = p) W2 wr) (fun x _ => 0 - (intOf x).toNat)
    case atStart => exact ⟨0, rfl, Nat.zero_le _, H.out, Fr.refl _ _⟩
    case round =>
      obtain ⟨j, rfl, hj, h1, h2⟩ := hrel
      by_cases hjc : j < 0
      · omega
      · obtain rfl : j = 0 := by omega
        have HJ := Lib.hid (And.intro h1 h2)
        clear h1 h2 hj
        gi_wp2
        exact ⟨HJ.out.2, HJ.out.1.congr fun x _ k hk => by
          unfold powUp
          by_cases e : x < i ∨ x = i ∧ k < 0
          · rw [if_pos e, if_pos (by omega)]
          · rw [if_neg e, if_neg (by omega)]⟩
  case hdone =>
    intro D W hD hi hK
    have H := Lib.hid hi
    have HK := Lib.hid (And.intro hD hK)
    obtain ⟨⟨c0, c1, c2⟩, _⟩ := cells3 hi.var
    obtain ⟨⟨d0, d1, d2⟩, f0, f1, f2⟩ := cells3 hi.st.res
    obtain ⟨W3, hW3⟩ : ∃ x : World, ((W.setCell ⟨gf + 1 + 1, 0, none⟩ (.int .i64 (r : Int))).setCell ⟨gf + 1 + 1, 1, none⟩ (.int .i64 0)).setCell ⟨gf + 1 + 1, 2, none⟩ (.slice (some ⟨g, 0, none⟩) (0) (0)) = x := ⟨_, rfl⟩
    have h3 := set3 hi.st.res (.int .i64 (r : Int)) (.int .i64 0) (.slice (some ⟨g, 0, none⟩) (0) (0))
    rw [hW3] at h3
    have HW3 := Lib.hid hW3
    have HR := Lib.hid h3
    clear hi hK hD h3 hW3
    go_wp2_with fail
    rw [HW3.out]
    have hap := HAP.out
    have hd := HK.out.1
    have hKD : W3.heap[D]? = some (.deferred (some [])) := by
      have h1 := (Array.getElem?_eq_some_iff.1 HK.out.2).1
      rw [HR.out.2.block D h1 (by omega)]; exact HK.out.2
    have hst := shut_still (B := 0) (.deferred none) hKD rfl (Nat.zero_le _)
    obtain ⟨⟨e0, e1, e2⟩, _⟩ := cells3 (hst.blk HR.out.1)
    refine ⟨by simp, .inl ⟨_, _, rfl, run_takeDeferred hKD, ?_⟩⟩
    refine ⟨.agg #[.int .i64 (r : Int), .int .i64 0, .slice (some ⟨g, 0, none⟩) (0) (0)], ?_, ?_⟩
    · simp [results, Try.results13, go_sem, e0, e1, e2]
    · have hw := (H.out.row.fr HR.out.2 (by omega)).congr (m' := powM xs) fun x hx k _ => by unfold powUp; rw [if_pos (.inl hx)]
      refine ⟨some ⟨g, 0, none⟩, 0, rfl, Nat.le_refl _, ?_, ?_, ?_⟩
      · exact Nw.of_own (Own.down (Own.fr hw (put_fr (k := D) _) (fun g' e1 e2 => by injection e1 with e1; have := congrArg Addr.block e1; dsimp only at this; omega)) (by omega))
      · exact (H.out.st.fld.fr HR.out.2 (by omega)).fr (put_fr (k := D) _) (by omega)
      · exact (H.out.st.fr.trans HR.out.2 fun k hk e => absurd hk (by omega)).trans (put_fr (k := D) _) fun k hk e => absurd hk (by omega)
end Go.Proofs.Ythdapoipfnnaeaa.MxW
/- Symmetric. -/
namespace Go.Proofs.Ythdapoipfnnaeaa.MxW
open Go.RowKit Go.Shelf Mem Gf FdW Mx Rng
open PlW (In)
set_option linter.unusedVariables false
attribute [local go_sem] Oper.semAt_some wide_fn

/-- Where row i of a packed one begins. -/
def offS (n : Nat) : Nat → Nat
  | 0 => 0
  | i + 1 => offS n i + (n - i)
def symM (n : Nat) (b : List UInt8) : M := fun x y => if x ≤ y then b.getD (offS n x + (y - x)) 0 else b.getD (offS n y + (x - y)) 0
/-- Rows ahead of i whole, row i up to column j. -/
def symUp (n : Nat) (b : List UInt8) (i j : Nat) : M := fun x y => if min x y < i ∨ (min x y = i ∧ max x y < j) then symM n b x y else 0
theorem offS_two (n : Nat) : ∀ i, i ≤ n → 2 * offS n i + i * i = i * (2 * n + 1)
  | 0, _ => by simp [offS]
  | i + 1, h => by
    have ih := offS_two n i (by omega)
    unfold offS
    obtain ⟨d, rfl⟩ : ∃ d, n = i + 1 + d := ⟨n - (i + 1), by omega⟩
    rw [show i + 1 + d - i = d + 1 by omega]
    simp only [Nat.add_mul, Nat.mul_add, Nat.one_mul, Nat.mul_one] at ih ⊢
    omega
theorem offS_len (n : Nat) : 2 * offS n n = n * (n + 1) := by
  have h := offS_two n n (Nat.le_refl _)
  simp only [Nat.mul_add, Nat.mul_one] at h ⊢
  have e : n * (2 * n) = 2 * (n * n) := by rw [← Nat.mul_assoc, Nat.mul_comm n 2, Nat.mul_assoc]
  omega
theorem offS_mono {n i k : Nat} (h : i ≤ k) : offS n i ≤ offS n k := by
  induction k with
  | zero => obtain rfl : i = 0 := by omega
            exact Nat.le_refl _
  | succ k ih =>
    by_cases e : i = k + 1
    · rw [e]; exact Nat.le_refl _
    · have := ih (by omega)
      show offS n i ≤ offS n k + (n - k)
      omega
theorem offS_lt {n i j : Nat} (hi : i < n) (hj : i ≤ j) (hjn : j < n) : offS n i + (j - i) < offS n n := by
  have h1 : offS n (i + 1) ≤ offS n n := offS_mono (by omega)
  have h2 : offS n (i + 1) = offS n i + (n - i) := rfl
  omega
theorem sym_step (n : Nat) (b : List UInt8) {i j : Nat} (hij : i ≤ j) (x y : Nat) : upd (upd (symUp n b i j) i j (b.getD (offS n i + (j - i)) 0)) j i (b.getD (offS n i + (j - i)) 0) x y = symUp n b i (j + 1) x y := by
  have hs : ∀ x y, (x = j ∧ y = i) ∨ (x = i ∧ y = j) → symM n b x y = b.getD (offS n i + (j - i)) 0 := fun x y h => by
    unfold symM
    rcases h with ⟨rfl, rfl⟩ | ⟨rfl, rfl⟩
    · by_cases e : x ≤ y
      · obtain rfl : x = y := by omega
        rw [if_pos (Nat.le_refl _)]
      · rw [if_neg e]
    · rw [if_pos hij]
  unfold upd symUp
  by_cases h1 : x = j ∧ y = i
  · rw [if_pos h1, if_pos (by omega), hs x y (.inl h1)]
  · rw [if_neg h1]
    by_cases h2 : x = i ∧ y = j
    · rw [if_pos h2, if_pos (by omega), hs x y (.inr h2)]
    · rw [if_neg h2]
      by_cases h3 : min x y < i ∨ min x y = i ∧ max x y < j
      · rw [if_pos h3, if_pos (by omega)]
      · rw [if_neg h3, if_neg (by omega)]
theorem sym_next (n : Nat) (b : List UInt8) (i x y : Nat) (hx : x < n) (hy : y < n) : symUp n b i n x y = symUp n b (i + 1) (i + 1) x y := by
  unfold symUp
  by_cases h : min x y < i ∨ min x y = i ∧ max x y < n
  · rw [if_pos h, if_pos (by omega)]
  · rw [if_neg h, if_neg (by omega)]
/-- While Symmetric goes on. -/
structure SymI (w : World) (g2 g3 g4 g6 B g n : Nat) (b : List UInt8) (i j : Nat) (W : World) : Prop where
  below : Below w.heap.size w W
  bn : Blk W g2 3 #[.int .i64 (n : Int)]
  b3 : ∃ Y l c, Blk W g3 22 #[.slice Y l c] ∧ l = b.length - (offS n i + (j - i)) ∧ l ≤ c ∧ c ≤ maxLen ∧ Bytes W w.heap.size Y (b.drop (offS n i + (j - i)))
  res : Blk W g4 27 zmx
  var : Blk W g6 27 (mcells n n (some ⟨g, 0, none⟩) (n * n) (n * n))
  row : Wm W B g (n * n) n n (symUp n b i j)
section
variable {w W W' : World} {g2 g3 g4 g6 B g n : Nat} {b : List UInt8} {i j : Nat}
theorem SymI.fr_ {S : Nat → Prop} (h : SymI w g2 g3 g4 g6 B g n b i j W) (hf : Fr S W W') (hS : ∀ k, S k → w.heap.size ≤ k) (hg : ¬ S g2 ∧ ¬ S g3 ∧ ¬ S g4 ∧ ¬ S g6 ∧ ¬ S g) : SymI w g2 g3 g4 g6 B g n b i j W' := by
  obtain ⟨Y, l, c, h1, h2, h3, h4, h5⟩ := h.b3
  exact ⟨h.below.trans (hf.below h.below.size hS), h.bn.fr hf hg.1, ⟨Y, l, c, h1.fr hf hg.2.1, h2, h3, h4, h5.below (hf.below h.below.size hS)⟩, h.res.fr hf hg.2.2.1, h.var.fr hf hg.2.2.2.1, h.row.fr hf hg.2.2.2.2⟩
theorem SymI.keep (h : SymI w g2 g3 g4 g6 B g n b i j W) (hb : Below W.heap.size W W') : SymI w g2 g3 g4 g6 B g n b i j W' :=
  h.fr_ (Fr.quiet (S := fun _ => False) hb) (fun _ h => h.elim) ⟨fun h => h, fun h => h, fun h => h, fun h => h, fun h => h⟩
theorem SymI.congr {i' j' : Nat} (h : SymI w g2 g3 g4 g6 B g n b i j W) (ho : offS n i + (j - i) = offS n i' + (j' - i')) (e : ∀ x, x < n → ∀ y, y < n → symUp n b i j x y = symUp n b i' j' x y) : SymI w g2 g3 g4 g6 B g n b i' j' W := by
  refine ⟨h.below, h.bn, ?_, h.res, h.var, h.row.congr e⟩
  have := h.b3
  rwa [ho] at this
end
set_option maxRecDepth 100000 in
set_option maxHeartbeats 4000000 in
theorem sym_bad (w : World) (n : Int) (A : Option Addr) (l cap : Nat) (hn : -9223372036854775808 ≤ n ∧ n ≤ 9223372036854775807) (h : n < 0 ∨ 65536 < n ∨ (0 ≤ n ∧ n ≤ 65536 ∧ (l : Int) ≠ n * (n + 1) / 2)) :
    Calls Try.prog 30 #[.int .i64 n, .slice A l cap] w (ErrM w 50) := by
  obtain ⟨x1, g1, h1, e1, n1⟩ := boxedT w #[.int .i64 n] 3
  obtain ⟨x2, g2, h2, e2, n2⟩ := boxedT x1 #[.slice A l cap] 22
  obtain ⟨w1, g0, h3, e3, n3⟩ := boxed x2 zmx
  have k1 := h1.2.2; have k2 := h2.2.2
  obtain rfl : g2 = g1 + 1 := by omega
  obtain rfl : g0 = g1 + 1 + 1 := by omega
  have H1 := Lib.hid (show Below w.heap.size w w1 ∧ Blk w1 g1 3 #[.int .i64 n] ∧ Blk w1 (g1 + 1) 22 #[.slice A l cap] ∧ Blk w1 (g1 + 1 + 1) 27 zmx from ⟨next (next h1.1 h2.1) h3.1, (h1.2.1.keep h2.1).keep h3.1, h2.2.1.keep h3.1, h3.2.1⟩)
  have HW1 := Lib.hid (show ((w.alloc (.cells #[.int .i64 n] 3)).alloc (.cells #[.slice A l cap] 22)).alloc (.cells #[.int .i64 0, .int .i64 0, .slice none 0 0] 27) = w1 from by rw [e1, e2]; exact e3)
  have HG := Lib.hid n1
  obtain ⟨⟨d0, d1, d2⟩, f0, f1, f2⟩ := cells3 H1.out.2.2.2
  have c1 : w1.cell? ⟨g1, 0, none⟩ = some (.int .i64 n) := H1.out.2.1.cell 0
  have c2 : w1.cell? ⟨g1 + 1, 0, none⟩ = some (.slice A l cap) := H1.out.2.2.1.cell 0
  obtain ⟨⟨e0, e1', e2'⟩, _⟩ := cells3 H1.out.2.2.2
  rw [← HG.out] at d0 d1 d2 f0 f1 f2 c1 c2
  rw [← HW1.out] at d0 d1 d2 f0 f1 f2 c1 c2
  have fin : ErrM w 50 (.returned (.tuple #[.agg #[.int .i64 0, .int .i64 0, .slice none 0 0], .int .i64 50])) w1 := ⟨rfl, H1.out.1⟩
  have FIN := Lib.hid fin
  clear h1 h2 h3 e1 e2 e3 n1 n2 n3 k1 k2 fin
  rcases h with h | h | ⟨h0, h6, hl⟩
  · have z1 : decide (n < 0) = true := decide_eq_true h
    clear h hn
    go_enter Try.func30, Try.ntmps30
    go_wp2_with fail
    rw [HW1.out, HG.out]
    exact bodyPost_ret (v := .tuple #[.agg #[.int .i64 0, .int .i64 0, .slice none 0 0], .int .i64 50]) (by simp [results, Try.results30, go_sem, e0, e1', e2']) rfl FIN.out
  · have z1 : decide (n < 0) = false := decide_eq_false (by omega)
    have z2 : decide (65536 < n) = true := decide_eq_true h
    clear h hn
    go_enter Try.func30, Try.ntmps30
    go_wp2_with fail
    rw [HW1.out, HG.out]
    exact bodyPost_ret (v := .tuple #[.agg #[.int .i64 0, .int .i64 0, .slice none 0 0], .int .i64 50]) (by simp [results, Try.results30, go_sem, e0, e1', e2']) rfl FIN.out
  · have z1 : decide (n < 0) = false := decide_eq_false (by omega)
    have z2 : decide (65536 < n) = false := decide_eq_false (by omega)
    have q1 : wrap64 (n + 1) = n + 1 := by unfold wrap64; omega
    obtain ⟨P, hP⟩ : ∃ P, n * (n + 1) = P := ⟨_, rfl⟩
    have hP2 : 0 ≤ P ∧ P ≤ 65536 * 65537 := by
      obtain ⟨k, rfl⟩ : ∃ k : Nat, n = (k : Int) := ⟨n.toNat, by omega⟩
      have h1 : k * (k + 1) ≤ 65536 * 65537 := Nat.mul_le_mul (by omega) (by omega)
      have h2 : P = ((k * (k + 1) : Nat) : Int) := by rw [← hP, Int.natCast_mul]; rfl
      omega
    have q2 : wrap64 P = P := by unfold wrap64; omega
    have q3 : P.tdiv 2 = P / 2 := Int.tdiv_eq_ediv_of_nonneg hP2.1
    have q4 : wrap64 (P / 2) = P / 2 := by unfold wrap64; omega
    obtain ⟨Q, hQ⟩ : ∃ Q, P / 2 = Q := ⟨_, rfl⟩
    rw [hP, hQ] at hl
    rw [hQ] at q3 q4
    have hne : ((l : Int) != Q) = true := by simpa using hl
    clear h0 h6 hl hP2 hQ hn
    go_enter Try.func30, Try.ntmps30
    go_wp2_with fail
    rw [HW1.out, HG.out]
    exact bodyPost_ret (v := .tuple #[.agg #[.int .i64 0, .int .i64 0, .slice none 0 0], .int .i64 50]) (by simp [results, Try.results30, go_sem, e0, e1', e2']) rfl FIN.out
theorem SymI.step {w W : World} {g2 g3 g4 g6 B g n : Nat} {b : List UInt8} {i j : Nat} {Y Y' : Option Addr} {l c : Nat} (h : SymI w g2 g3 g4 g6 B g n b i j W) (hi : i < n) (hj : j < n) (hij : i ≤ j) (x : UInt8) (hx : b.getD (offS n i + (j - i)) 0 = x) (hg : w.heap.size ≤ g ∧ w.heap.size ≤ g3) (hne : g2 ≠ g ∧ g4 ≠ g ∧ g6 ≠ g ∧ g ≠ g3 ∧ g2 ≠ g3 ∧ g4 ≠ g3 ∧ g6 ≠ g3)
    (hY : Blk W g3 22 #[.slice Y l c]) (hl : l = b.length - (offS n i + (j - i))) (hl0 : 0 < l) (hlc : l ≤ c) (hc : c ≤ maxLen) (hY' : Bytes W w.heap.size Y' (b.drop (offS n i + (j - i) + 1))) :
    SymI w g2 g3 g4 g6 B g n b i (j + 1) (((W.setCell ⟨g, i * n + j, none⟩ (.int .u8 (x.toNat : Int))).setCell ⟨g, j * n + i, none⟩ (.int .u8 (x.toNat : Int))).setCell ⟨g3, 0, none⟩ (.slice Y' (l - 1) (c - 1))) := by
  have hf1 := setF (p := g) W ⟨g, i * n + j, none⟩ rfl (.int .u8 (x.toNat : Int))
  have hw1 := h.row.set hi hj x
  obtain ⟨W1, hW1⟩ : ∃ X : World, W.setCell ⟨g, i * n + j, none⟩ (.int .u8 (x.toNat : Int)) = X := ⟨_, rfl⟩
  rw [hW1] at hf1 hw1 ⊢
  have hf2 := setF (p := g) W1 ⟨g, j * n + i, none⟩ rfl (.int .u8 (x.toNat : Int))
  have hw2 := hw1.set hj hi x
  obtain ⟨W2, hW2⟩ : ∃ X : World, W1.setCell ⟨g, j * n + i, none⟩ (.int .u8 (x.toNat : Int)) = X := ⟨_, rfl⟩
  rw [hW2] at hf2 hw2 ⊢
  have hf := hf1.trans hf2 fun _ _ h => h
  have hf3 := setF (p := g3) W2 ⟨g3, 0, none⟩ rfl (.slice Y' (l - 1) (c - 1))
  have hb1 : Below w.heap.size w W2 := h.below.trans (hf.below h.below.size fun k e => by omega)
  have hbb : Below w.heap.size W (W2.setCell ⟨g3, 0, none⟩ (.slice Y' (l - 1) (c - 1))) := (hf.below h.below.size fun k e => by omega).trans (hf3.below (Nat.le_trans h.below.size hf.size) fun k e => by omega)
  refine ⟨h.below.trans hbb, (h.bn.fr hf (by omega)).fr hf3 (by omega), ⟨Y', l - 1, c - 1, (hY.fr hf (by omega)).set_ 0 _, ?_, by omega, by omega, ?_⟩, (h.res.fr hf (by omega)).fr hf3 (by omega), (h.var.fr hf (by omega)).fr hf3 (by omega), (hw2.fr hf3 (by omega)).congr fun u _ v _ => ?_⟩
  · rw [hl]; omega
  · rw [show offS n i + (j + 1 - i) = offS n i + (j - i) + 1 by omega]; exact hY'.below hbb
  · rw [← hx]; exact sym_step n b hij u v
set_option maxRecDepth 100000 in
set_option maxHeartbeats 4000000 in
theorem sym_ok (w : World) (n : Nat) (hn : n ≤ 100) (A : Option Addr) (b : List UInt8) (l cap : Nat) (hl : b.length = l) (h2l : 2 * l = n * (n + 1)) (hcap : l ≤ cap) (hcm : cap ≤ maxLen) (hA : Bytes w w.heap.size A b) :
    Calls Try.prog 30 #[.int .i64 (n : Int), .slice A l cap] w (NewT w n n (symM n b)) := by
  have hq : ((n * n : Nat) : Int) ≤ 1000000000 := by
    have h1 : n * n ≤ 100 * 100 := Nat.mul_le_mul hn hn
    omega
  refine of_wide ?_
  refine callsIn_of_wp_marks Try.func30 rfl trivial ?_ rfl
  refine wpIn_wide.2 ?_
  simp only [Try.ntmps30, List.size_toArray, List.length_cons, List.length_nil, Nat.reduceAdd, Nat.reduceSub, Array.replicate_succ, Array.replicate_zero, List.push_toArray, List.append_toArray, List.nil_append, List.cons_append]
  obtain ⟨x1, g1, h1, e1, n1⟩ := boxedT w #[.int .i64 (n : Int)] 3
  obtain ⟨x2, g2, h2, e2, n2⟩ := boxedT x1 #[.slice A l cap] 22
  obtain ⟨w1, g0, h3, e3, n3⟩ := boxed x2 zmx
  have k1 := h1.2.2; have k2 := h2.2.2; have k3 := h3.2.2
  obtain rfl : g2 = g1 + 1 := by omega
  obtain rfl : g0 = g1 + 1 + 1 := by omega
  have H1 := Lib.hid (show Below w.heap.size w w1 ∧ Blk w1 g1 3 #[.int .i64 (n : Int)] ∧ Blk w1 (g1 + 1) 22 #[.slice A l cap] ∧ Blk w1 (g1 + 1 + 1) 27 zmx ∧ w1.heap.size = g1 + 3 from ⟨next (next h1.1 h2.1) h3.1, (h1.2.1.keep h2.1).keep h3.1, h2.2.1.keep h3.1, h3.2.1, by omega⟩)
  have HW1 := Lib.hid (show ((w.alloc (.cells #[.int .i64 (n : Int)] 3)).alloc (.cells #[.slice A l cap] 22)).alloc (.cells #[.int .i64 0, .int .i64 0, .slice none 0 0] 27) = w1 from by rw [e1, e2]; exact e3)
  have HG := Lib.hid n1
  have c1 : w1.cell? ⟨g1, 0, none⟩ = some (.int .i64 (n : Int)) := H1.out.2.1.cell 0
  have c2 : w1.cell? ⟨g1 + 1, 0, none⟩ = some (.slice A l cap) := H1.out.2.2.1.cell 0
  rw [← HG.out] at c1 c2
  rw [← HW1.out] at c1 c2
  have hl9 : l ≤ 10100 := by
    have h1 : n * (n + 1) ≤ 100 * 101 := Nat.mul_le_mul hn (by omega)
    omega
  have HL := Lib.hid (And.intro hn (And.intro hl (And.intro hcap (And.intro hcm hq))))
  have HOF := Lib.hid (show b.length = offS n n from by have h := offS_len n; rw [← h2l] at h; omega)
  have hP : (n : Int) * ((n : Int) + 1) = ((2 * l : Nat) : Int) := by rw [h2l, Int.natCast_mul]; rfl
  obtain ⟨P, hPP⟩ : ∃ P : Int, ((2 * l : Nat) : Int) = P := ⟨_, rfl⟩
  rw [hPP] at hP
  have hPl : P = 2 * (l : Int) := by omega
  have z1 : decide ((n : Int) < 0) = false := decide_eq_false (by omega)
  have z2 : decide ((65536 : Int) < (n : Int)) = false := decide_eq_false (by omega)
  have q3 : P.tdiv 2 = (l : Int) := by rw [Int.tdiv_eq_ediv_of_nonneg (by omega)]; omega
  have q5 : P / 2 = (l : Int) := by omega
  have q1 : wrap64 ((n : Int) + 1) = (n : Int) + 1 := by clear hP q3 q5; unfold wrap64; omega
  have q2 : wrap64 P = P := by clear q1 hP q3 q5; unfold wrap64; omega
  have q4 : wrap64 (l : Int) = (l : Int) := by clear q1 q2 hP q3 q5; unfold wrap64; omega
  clear hPl
  have HA := Lib.hid hA
  clear h1 h2 h3 e1 e2 e3 n1 n2 n3 k1 k2 k3 hn hl h2l hcap hcm hA hq hPP hl9
  go_wp2_with fail
  rw [HW1.out, HG.out]
  clear q1 q2 q3 q4 q5 hP c1 c2
  refine (none_any w1 n n HL.out.2.2.2.2).mono ?_
  rintro e w2 ⟨g, rfl, ho, hb⟩
  have H2 := Lib.hid (show Below w.heap.size w w2 ∧ Blk w2 g1 3 #[.int .i64 (n : Int)] ∧ Blk w2 (g1 + 1) 22 #[.slice A l cap] ∧ Blk w2 (g1 + 1 + 1) 27 zmx ∧ Wm w2 w1.heap.size g (n * n) n n (fun _ _ => 0) from ⟨next H1.out.1 hb, H1.out.2.1.keep hb, H1.out.2.2.1.keep hb, H1.out.2.2.2.1.keep hb, ho⟩)
  have HS2 := Lib.hid hb.size
  clear ho hb
  go_wp2_with fail
  obtain ⟨w3, g7, h3, hw3, hg7⟩ := boxed w2 (mcells n n (some ⟨g, 0, none⟩) (n * n) (n * n))
  have HW3 := Lib.hid (show w2.alloc (.cells #[.int .i64 (n : Int), .int .i64 (n : Int), .slice (some ⟨g, 0, none⟩) (n * n) (n * n)] 27) = w3 from hw3)
  rw [HW3.out, hg7]
  have H3 := Lib.hid h3
  have HG7 := Lib.hid hg7
  clear hw3 h3 hg7
  refine (rows_any w3 _ _ _).mono ?_
  rintro e w4' ⟨rfl, rfl⟩
  obtain ⟨w4, bm, h4, hw4, hbm⟩ := boxed w3 (mcells n n (some ⟨g, 0, none⟩) (n * n) (n * n))
  have HW4 := Lib.hid (show w3.alloc (.cells #[.int .i64 (n : Int), .int .i64 (n : Int), .slice (some ⟨g, 0, none⟩) (n * n) (n * n)] 27) = w4 from hw4)
  rw [HW4.out, hbm]
  have hap : w.heap.size = g1 ∧ w1.heap.size = g1 + 3 ∧ w1.heap.size ≤ g ∧ g < g7 ∧ bm = g7 + 1 ∧ w4.heap.size = bm + 1 := by
    have k1 := H1.out.2.2.2.2; have k2 := H2.out.2.2.2.2.form; have k3 := HG7.out; have k4 := H3.out.2.2; have k5 := h4.2.2; have k7 := HG.out
    omega
  have HAP := Lib.hid hap
  have HI0 := Lib.hid (show SymI w g1 (g1 + 1) (g1 + 1 + 1) g7 w1.heap.size g n b 0 0 w4 from
    ⟨next (next H2.out.1 H3.out.1) h4.1, (H2.out.2.1.keep H3.out.1).keep h4.1, ⟨A, l, cap, (H2.out.2.2.1.keep H3.out.1).keep h4.1, by show l = b.length - (0 + (0 - 0)); have := HL.out.2.1; omega, HL.out.2.2.1, HL.out.2.2.2.1, HA.out.below (next (next H2.out.1 H3.out.1) h4.1)⟩, (H2.out.2.2.2.1.keep H3.out.1).keep h4.1, H3.out.2.1.keep h4.1, ((H2.out.2.2.2.2.keep H3.out.1).keep h4.1).congr fun x _ k _ => by unfold symUp; rw [if_neg (by omega)]⟩)
  have H4 := Lib.hid h4
  clear hw4 hbm h4 hap
  go_wp2_with fail
  refine (wpIn_wide (n := 5)).1 ?_
  refine wpIn_rows bm n n (some ⟨g, 0, none⟩) (n * n) (n * n) rfl H4.out.2.1 (by have := HL.out; omega) rfl HL.out.2.2.2.2 (Nat.le_refl _) (fun k => k = g ∨ k = g1 + 1) (by have := HAP.out; omega)
    (fun i W => SymI w g1 (g1 + 1) (g1 + 1 + 1) g7 w1.heap.size g n b i i W) ?hI HI0.out ?hround ?hdone
  case hI =>
    intro i W W' h hf
    have hap := HAP.out
    exact h.fr_ hf (fun k e => by omega) ⟨by omega, by omega, by omega, by omega, by omega⟩
  case hround =>
    intro ln i W hi hlt
    have HLT := Lib.hid hlt
    obtain ⟨q1, hq1⟩ : ∃ q1, i * n = q1 := ⟨_, rfl⟩
    rw [show rowA (some ⟨g, 0, none⟩) n i = some ⟨g, q1, none⟩ from by rw [rowA_some (by omega), Nat.zero_add, hq1]]
    have HQ1 := Lib.hid hq1
    have hi9 : (i : Int) ≤ 1000 := by have := HL.out; omega
    have hi0 : (0 : Int) ≤ (i : Int) := by omega
    have hin : (i : Int) < (n : Int) := by omega
    clear hlt hi hq1
    gi_wp2
    refine ⟨trivial, fun W2 hi2 => ?_⟩
    have H := Lib.hid hi2
    clear hi2
    gi_wp2
    gi_loopw [9] (fun x wr => ∃ j : Nat, x = .int .i64 (j : Int) ∧ i ≤ j ∧ j ≤ n ∧ SymI w g1 (g1 + 1) (g1 + 1 + 1) g7 w1.heap.size g n b i j wr ∧ Fr (fun k => k = g ∨ k = g1 + 1) W2 wr) (fun x _ => n - (intOf x).toNat)
    case atStart => exact ⟨i, rfl, Nat.le_refl _, Nat.le_of_lt HLT.out, H.out, Fr.refl _ _⟩
    case round =>
      obtain ⟨j, rfl, hij, hj, h1, h2⟩ := hrel
      have cn : wr.cell? ⟨g1, 0, none⟩ = some (.int .i64 (n : Int)) := h1.bn.cell 0
      by_cases hjc : j < n
      · obtain ⟨Y, l', c', hb3, hl', hlc, hcm, hby⟩ := h1.b3
        have hs := offS_lt HLT.out hij hjc
        rw [← HOF.out] at hs
        have hl0 : 0 < l' := by omega
        obtain ⟨ab, off, rfl, hab, hx1⟩ := hby.at_ (k := 0) (by rw [List.length_drop]; omega)
        rw [List.getElem_drop] at hx1
        obtain ⟨x, hx⟩ : ∃ x, b.getD (offS n i + (j - i)) 0 = x := ⟨_, rfl⟩
        rw [show b[offS n i + (j - i) + 0]'(by omega) = x from by rw [← hx, List.getD_eq_getElem?_getD, List.getElem?_eq_getElem hs]; rfl, Nat.add_zero] at hx1
        have hnext : Bytes wr w.heap.size (if c' = 1 then some ⟨ab, off, none⟩ else some ⟨ab, off + 1, none⟩) (b.drop (offS n i + (j - i) + 1)) := by
          by_cases e : c' = 1
          · rw [if_pos e, List.drop_of_length_le (by omega)]; exact Bytes.nil
          · rw [if_neg e]
            have := hby.drop 1
            rwa [List.drop_drop] at this
        obtain ⟨q2, hq2⟩ : ∃ q2, j * n = q2 := ⟨_, rfl⟩
        have HQ2 := Lib.hid hq2
        have hji : (j : Int) < (n : Int) := by omega
        have hj0 : (0 : Int) ≤ (j : Int) := by omega
        have hj9 : (j : Int) ≤ 1000 := by have := HL.out; omega
        have hl0i : (0 : Int) < (l' : Int) := by omega
        have HJ := Lib.hid (And.intro h1 (And.intro h2 (And.intro hjc hij)))
        have HY := Lib.hid (And.intro hb3 (And.intro hl' (And.intro hl0 (And.intro hlc (And.intro hcm hnext)))))
        have HX := Lib.hid (And.intro hx hab)
        clear h1 h2 hj hjc hij hb3 hl' hlc hcm hby hs hx hab hnext hq2
        gi_wp2
        --HELD sym_ok10
        refine wpIn_only ?_
        refine wpIn_heldG (fun w' => Blk w' g7 27 (mcells n n (some ⟨g, 0, none⟩) (n * n) (n * n)) ∧ Blk w' (g1 + 1) 22 #[.slice (some ⟨ab, off, none⟩) l' c'] ∧ w'.cell? ⟨ab, off, none⟩ = some (.int .u8 (x.toNat : Int))) [] (by kernel_rfl) (by kernel_rfl) (fun ⟨_, _, h⟩ => h) ?hs0 ?rg0
        case hs0 =>
          exact ⟨HJ.out.1.var, HY.out.1, hx1⟩
        case rg0 =>
        intro hHeld
        refine puG 0 ⟨some 40, .move (.tmp 8), 22, _, #[], none⟩ (v := ?_) ?_ (fun _ => by assumption) ?_
        rotate_left
        · intro w hSw
          try dsimp only at hSw
          go_simp
          try with_reducible rfl
        try simp only [Act.put, List.setIfInBounds_toArray, List.set_cons_zero, List.set_cons_succ]
        refine puG 1 ⟨some 41, .move (.tmp 9), 3, _, #[], none⟩ (v := ?_) ?_ (fun _ => by assumption) ?_
        rotate_left
        · intro w hSw
          try dsimp only at hSw
          go_simp
          try with_reducible rfl
        try simp only [Act.put, List.setIfInBounds_toArray, List.set_cons_zero, List.set_cons_succ]
        refine tkG 2 ⟨some 42, .load 27 (.tmp 6), 27, _, #[], none⟩ (v := ?_) ?_ (by assumption) ?_
        rotate_left
        · intro w hSw
          try dsimp only at hSw
          obtain ⟨⟨c0, c1, c2⟩, _⟩ := cells3 hSw.1
          go_simp
          try with_reducible rfl
        try simp only [Act.put, List.setIfInBounds_toArray, List.set_cons_zero, List.set_cons_succ]
        refine puG 3 ⟨some 43, .move (.tmp 9), 3, _, #[], none⟩ (v := ?_) ?_ (fun _ => by assumption) ?_
        rotate_left
        · intro w hSw
          try dsimp only at hSw
          go_simp
          try with_reducible rfl
        try simp only [Act.put, List.setIfInBounds_toArray, List.set_cons_zero, List.set_cons_succ]
        refine puG 5 ⟨some 45, .move (.tmp 7), 3, _, #[{ on := 13, ground := Ground.gcOnly Departure.lateStores }], none⟩ (v := ?_) ?_ (fun _ => by assumption) ?_
        rotate_left
        · intro w hSw
          try dsimp only at hSw
          go_simp
          try with_reducible rfl
        try simp only [Act.put, List.setIfInBounds_toArray, List.set_cons_zero, List.set_cons_succ]
        refine tkG 6 ⟨some 46, .load 22 (.tmp 3), 22, _, #[], none⟩ (v := ?_) ?_ (by assumption) ?_
        rotate_left
        · intro w hSw
          try dsimp only at hSw
          have c0 : w.cell? ⟨g1 + 1, 0, none⟩ = some (.slice (some ⟨ab, off, none⟩) l' c') := hSw.2.1.cell 0
          go_simp
          try with_reducible rfl
        try simp only [Act.put, List.setIfInBounds_toArray, List.set_cons_zero, List.set_cons_succ]
        refine puG 7 ⟨some 47, .indexAddr 22 (.tmp 46) (Operand.const (Value.int IntKind.i64 0)), 0, _, #[⟨6, .data⟩], none⟩ (v := ?_) ?_ (fun _ => by assumption) ?_
        rotate_left
        · intro w hSw
          try dsimp only at hSw
          go_simp
          try with_reducible rfl
        try simp only [Act.put, List.setIfInBounds_toArray, List.set_cons_zero, List.set_cons_succ]
        refine tkG 8 ⟨some 48, .load 5 (.tmp 47), 5, _, #[⟨7, .data⟩], none⟩ (v := ?_) ?_ (by assumption) ?_
        rotate_left
        · intro w hSw
          try dsimp only at hSw
          have c0 := hSw.2.2
          go_simp
          try with_reducible rfl
        try simp only [Act.put, List.setIfInBounds_toArray, List.set_cons_zero, List.set_cons_succ]
        refine tkG 9 ⟨some 49, .load 22 (.tmp 3), 22, _, #[], none⟩ (v := ?_) ?_ (by assumption) ?_
        rotate_left
        · intro w hSw
          try dsimp only at hSw
          have c0 : w.cell? ⟨g1 + 1, 0, none⟩ = some (.slice (some ⟨ab, off, none⟩) l' c') := hSw.2.1.cell 0
          go_simp
          try with_reducible rfl
        try simp only [Act.put, List.setIfInBounds_toArray, List.set_cons_zero, List.set_cons_succ]
        refine puG 10 ⟨some 50, .indexAddr 22 (.tmp 49) (Operand.const (Value.int IntKind.i64 0)), 0, _, #[⟨9, .data⟩], none⟩ (v := ?_) ?_ (fun _ => by assumption) ?_
        rotate_left
        · intro w hSw
          try dsimp only at hSw
          go_simp
          try with_reducible rfl
        try simp only [Act.put, List.setIfInBounds_toArray, List.set_cons_zero, List.set_cons_succ]
        refine tkG 11 ⟨some 51, .load 5 (.tmp 50), 5, _, #[⟨10, .data⟩], none⟩ (v := ?_) ?_ (by assumption) ?_
        rotate_left
        · intro w hSw
          try dsimp only at hSw
          have c0 := hSw.2.2
          go_simp
          try with_reducible rfl
        try simp only [Act.put, List.setIfInBounds_toArray, List.set_cons_zero, List.set_cons_succ]
        refine onG 4 ⟨some 44, .call { callee := Callee.value (Operand.func 49), args := #[.tmp 42, .tmp 43], argTypes := #[27, 3] }, 22, _, #[⟨2, .data⟩, ⟨3, .data⟩], none⟩ (fun K hK => ?_)
        go_simp
        refine (row_any _ n n j (some ⟨g, 0, none⟩) (n * n) (n * n) HJ.out.2.2.1 (by have := HL.out; omega) rfl HL.out.2.2.2.2 (Nat.le_refl _)).mono ?_
        rintro e w6 ⟨rfl, hb⟩
        rw [show rowA (some ⟨g, 0, none⟩) n j = some ⟨g, q2, none⟩ from by rw [rowA_some (by have := HJ.out.2.2.1; omega), Nat.zero_add, HQ2.out]]
        have H6 := Lib.hid (next (nextN (Mem.start wr) 1) hb)
        try dsimp only
        refine hK.out _ _ ?_ (fun hHeld => ?_)
        · intro _
          try dsimp only
          exact ⟨hHeld.1.keep hb, hHeld.2.1.keep hb, (hb.cell (p := ⟨ab, off, none⟩) (World.block_lt_of_cell? _ _ hHeld.2.2)).trans hHeld.2.2⟩
        clear hK K
        try simp only [Act.put, List.setIfInBounds_toArray, List.set_cons_zero, List.set_cons_succ]
        have hHeld := hHeld (by kernel_rfl)
        refine puG 12 ⟨some 52, .indexAddr 22 (.tmp 40) (.tmp 41), 0, _, #[⟨0, .data⟩, ⟨1, .data⟩, ⟨0, .phase⟩, ⟨1, .phase⟩, { on := 2, ground := Ground.textOnly Departure.lateStores }, { on := 3, ground := Ground.textOnly Departure.lateStores }, ⟨4, .phase⟩, { on := 5, ground := Ground.textOnly Departure.lateStores }, ⟨6, .phase⟩, ⟨7, .phase⟩, ⟨8, .phase⟩, { on := 9, ground := Ground.textOnly Departure.inlinedCapture }, { on := 10, ground := Ground.textOnly Departure.lateStoresUnsure }, ⟨11, .phase⟩], none⟩ (v := ?_) ?_ (fun _ => by assumption) ?_
        rotate_left
        · intro w hSw
          try dsimp only at hSw
          go_simp
          try with_reducible rfl
        try simp only [Act.put, List.setIfInBounds_toArray, List.set_cons_zero, List.set_cons_succ]
        refine onG 13 ⟨none, .store 5 (.tmp 52) (.tmp 48), 0, _, #[⟨12, .data⟩, ⟨8, .data⟩, ⟨4, .chain⟩, ⟨0, .phase⟩, ⟨1, .phase⟩, { on := 2, ground := Ground.textOnly Departure.lateStores }, { on := 3, ground := Ground.textOnly Departure.lateStores }, ⟨4, .phase⟩, { on := 5, ground := Ground.textOnly Departure.lateStores }, ⟨6, .phase⟩, ⟨7, .phase⟩, ⟨8, .phase⟩, { on := 9, ground := Ground.textOnly Departure.inlinedCapture }, { on := 10, ground := Ground.textOnly Departure.lateStoresUnsure }, ⟨11, .phase⟩], none⟩ (fun K hK => ?_)
        have h6 := HJ.out.1.keep H6.out
        obtain ⟨k1, k2⟩ := h6.row.at_ HLT.out HJ.out.2.2.1
        rw [HQ1.out] at k1 k2
        have hw1 := h6.row.set HLT.out HJ.out.2.2.1 x
        rw [HQ1.out] at hw1
        have HW1S := Lib.hid hw1
        clear h6 hw1
        go_simp
        try dsimp only
        refine hK.out _ _ ?_ (fun hHeld => ?_)
        · intro _
          try dsimp only
          have hap := HAP.out
          have hxa := HX.out.2
          exact ⟨hHeld.1.fr (setF (p := g) _ _ rfl _) (by omega), hHeld.2.1.fr (setF (p := g) _ _ rfl _) (by omega), cellFr (setF (p := g) _ _ rfl _) hHeld.2.2 (by omega)⟩
        clear hK K
        try simp only [Act.put, List.setIfInBounds_toArray, List.set_cons_zero, List.set_cons_succ]
        have hHeld := hHeld (by kernel_rfl)
        refine puG 14 ⟨some 53, .indexAddr 22 (.tmp 44) (.tmp 45), 0, _, #[⟨4, .data⟩, ⟨5, .data⟩, ⟨0, .phase⟩, ⟨1, .phase⟩, ⟨2, .phase⟩, ⟨3, .phase⟩, ⟨4, .phase⟩, ⟨5, .phase⟩, ⟨6, .phase⟩, ⟨7, .phase⟩, ⟨8, .phase⟩, ⟨9, .phase⟩, ⟨10, .phase⟩, ⟨11, .phase⟩, ⟨12, .phase⟩, ⟨13, .phase⟩], none⟩ (v := ?_) ?_ (fun _ => by assumption) ?_
        rotate_left
        · intro w hSw
          try dsimp only at hSw
          go_simp
          try with_reducible rfl
        try simp only [Act.put, List.setIfInBounds_toArray, List.set_cons_zero, List.set_cons_succ]
        refine onG 15 ⟨none, .store 5 (.tmp 53) (.tmp 51), 0, _, #[⟨14, .data⟩, ⟨11, .data⟩, ⟨13, .chain⟩, ⟨0, .phase⟩, ⟨1, .phase⟩, ⟨2, .phase⟩, ⟨3, .phase⟩, ⟨4, .phase⟩, ⟨5, .phase⟩, ⟨6, .phase⟩, ⟨7, .phase⟩, ⟨8, .phase⟩, ⟨9, .phase⟩, ⟨10, .phase⟩, ⟨11, .phase⟩, ⟨12, .phase⟩, ⟨13, .phase⟩], none⟩ (fun K hK => ?_)
        obtain ⟨k3, k4⟩ := HW1S.out.at_ HJ.out.2.2.1 HLT.out
        rw [HQ2.out] at k3 k4
        go_simp
        try dsimp only
        refine hK.out _ _ ?_ (fun hHeld => ?_)
        · intro _
          try dsimp only
          have hap := HAP.out
          have hxa := HX.out.2
          exact ⟨hHeld.1.fr (setF (p := g) _ _ rfl _) (by omega), hHeld.2.1.fr (setF (p := g) _ _ rfl _) (by omega), cellFr (setF (p := g) _ _ rfl _) hHeld.2.2 (by omega)⟩
        clear hK K
        try simp only [Act.put, List.setIfInBounds_toArray, List.set_cons_zero, List.set_cons_succ]
        have hHeld := hHeld (by kernel_rfl)
        refine wpAnyG_done (by kernel_rfl) ?_ _
        refine onlyN_end ?_
        --END sym_ok10
        have hap := HAP.out
        have hbx7 := hHeld.2.1.cell 0
        have hbf7 := hHeld.2.1.frozen 0
        clear hHeld
        have HS7 := Lib.hid (SymI.step (Y' := if c' = 1 then some ⟨ab, off, none⟩ else some ⟨ab, off + 1, none⟩) (HJ.out.1.keep H6.out) HLT.out HJ.out.2.2.1 HJ.out.2.2.2 x HX.out.1 ⟨by omega, by omega⟩ ⟨by omega, by omega, by omega, by omega, by omega, by omega, by omega⟩ (HY.out.1.keep H6.out) HY.out.2.1 HY.out.2.2.1 HY.out.2.2.2.1 HY.out.2.2.2.2.1 (HY.out.2.2.2.2.2.below (H6.out.mono HJ.out.1.below.size)))
        have hf1 := setF (p := g) w6 ⟨g, q1 + j, none⟩ rfl (.int .u8 (x.toNat : Int))
        obtain ⟨w7, hw7⟩ : ∃ X : World, w6.setCell ⟨g, q1 + j, none⟩ (.int .u8 (x.toNat : Int)) = X := ⟨_, rfl⟩
        rw [HQ1.out, HQ2.out, hw7] at HS7
        rw [hw7] at hbx7 hbf7 hf1 ⊢
        have hf2 := setF (p := g) w7 ⟨g, q2 + i, none⟩ rfl (.int .u8 (x.toNat : Int))
        obtain ⟨w8, hw8⟩ : ∃ X : World, w7.setCell ⟨g, q2 + i, none⟩ (.int .u8 (x.toNat : Int)) = X := ⟨_, rfl⟩
        rw [hw8] at HS7
        rw [hw8] at hbx7 hbf7 hf2 ⊢
        have HF8 := Lib.hid ((HJ.out.2.1.trans (Fr.quiet (S := fun k => k = g ∨ k = g1 + 1) H6.out) fun _ _ h => h).trans ((hf1.trans hf2 fun _ _ h => h).mono (S' := fun k => k = g ∨ k = g1 + 1) fun k _ e => .inl e) fun _ _ h => h)
        have hl1 : (1 : Int) ≤ (l' : Int) := by have := HY.out.2.2.1; omega
        have hlc : (l' : Int) ≤ (c' : Int) := by have := HY.out.2.2.2.1; omega
        have hl1n : 1 ≤ l' := HY.out.2.2.1
        have hlcn : l' ≤ c' := HY.out.2.2.2.1
        clear hw7 hw8 hf1 hf2 hap
        by_cases e1 : c' = 1
        · rw [if_pos e1] at HS7
          subst e1
          obtain rfl : l' = 1 := by omega
          gi_wp2
          exact ⟨⟨j + 1, by simp, by have := HJ.out.2.2.2; omega, HJ.out.2.2.1, HS7.out, HF8.out.trans ((setF (p := g1 + 1) w8 _ rfl _).mono (S' := fun k => k = g ∨ k = g1 + 1) fun k _ e => .inr e) fun _ _ h => h⟩, by have := HJ.out.2.2.1; simp [intOf]; omega⟩
        · rw [if_neg e1] at HS7
          gi_wp2
          exact ⟨⟨j + 1, by simp, by have := HJ.out.2.2.2; omega, HJ.out.2.2.1, HS7.out, HF8.out.trans ((setF (p := g1 + 1) w8 _ rfl _).mono (S' := fun k => k = g ∨ k = g1 + 1) fun k _ e => .inr e) fun _ _ h => h⟩, by have := HJ.out.2.2.1; simp [intOf]; omega⟩
      · obtain rfl : n = j := by omega
        have HJ := Lib.hid (And.intro h1 h2)
        clear h1 h2 hj hjc hij
        gi_wp2
        exact ⟨HJ.out.2, HJ.out.1.congr (by show offS n i + (n - i) = offS n i + (n - i) + (i + 1 - (i + 1)); omega) fun x hx y hy => sym_next n b i x y hx hy⟩
  case hdone =>
    intro D W hD hi hK
    have H := Lib.hid hi
    have HK := Lib.hid (And.intro hD hK)
    obtain ⟨⟨c0, c1, c2⟩, _⟩ := cells3 hi.var
    obtain ⟨⟨d0, d1, d2⟩, f0, f1, f2⟩ := cells3 hi.res
    obtain ⟨W3, hW3⟩ : ∃ x : World, ((W.setCell ⟨g1 + 1 + 1, 0, none⟩ (.int .i64 (n : Int))).setCell ⟨g1 + 1 + 1, 1, none⟩ (.int .i64 (n : Int))).setCell ⟨g1 + 1 + 1, 2, none⟩ (.slice (some ⟨g, 0, none⟩) (n * n) (n * n)) = x := ⟨_, rfl⟩
    have h3 := set3 hi.res (.int .i64 (n : Int)) (.int .i64 (n : Int)) (.slice (some ⟨g, 0, none⟩) (n * n) (n * n))
    rw [hW3] at h3
    have HW3 := Lib.hid hW3
    have HR := Lib.hid h3
    clear hi hK hD h3 hW3
    go_wp2_with fail
    rw [HW3.out]
    have hap := HAP.out
    have hd := HK.out.1
    have hKD : W3.heap[D]? = some (.deferred (some [])) := by
      have h1 := (Array.getElem?_eq_some_iff.1 HK.out.2).1
      rw [HR.out.2.block D h1 (by omega)]; exact HK.out.2
    have hst := shut_still (B := 0) (.deferred none) hKD rfl (Nat.zero_le _)
    obtain ⟨⟨e0, e1, e2⟩, _⟩ := cells3 (hst.blk HR.out.1)
    refine ⟨by simp, .inl ⟨_, _, rfl, run_takeDeferred hKD, ?_⟩⟩
    refine ⟨.tuple #[.agg #[.int .i64 (n : Int), .int .i64 (n : Int), .slice (some ⟨g, 0, none⟩) (n * n) (n * n)], .int .i64 0], ?_, ?_⟩
    · simp [results, Try.results30, go_sem, e0, e1, e2]
    · have hb : Below w.heap.size w W3 := H.out.below.trans (HR.out.2.below H.out.below.size fun k e => by rw [e]; omega)
      have hw := (H.out.row.fr HR.out.2 (by omega)).congr (m' := symM n b) fun a ha b hb => by unfold symUp; rw [if_pos (.inl (by omega))]
      refine ⟨some ⟨g, 0, none⟩, n * n, rfl, Nat.le_refl _, ?_, ?_⟩
      · exact Nw.of_own (Own.down (Own.fr hw (put_fr (k := D) _) (fun g' e1 e2 => by injection e1 with e1; have := congrArg Addr.block e1; dsimp only at this; omega)) (by omega))
      · exact hb.trans ((put_fr (k := D) _).below hb.size fun k e => by rw [e]; omega)
end Go.Proofs.Ythdapoipfnnaeaa.MxW
/- Packed. -/
namespace Go.Proofs.Ythdapoipfnnaeaa.MxW
open Go.RowKit Go.Shelf Mem Gf FdW Mx Rng
open PlW (In)
set_option linter.unusedVariables false
attribute [local go_sem] Oper.semAt_some wide_fn

/-- A range over a matrix's rows, the rounds' blocks told apart from the loop's own. -/
theorem wpIn_rows2 {g : Operand} {p q : Tmp} {assign body : Code} {Q : Exit → Act → World → Prop} {a : Act} {w : World} (bm r c : Nat) (A : Option Addr) (n cap : Nat)
    (hg : a.eval g = .func (.func 57) #[] #[.pointer (some ⟨bm, 0, none⟩)]) (hbm : Blk w bm 27 #[.int .i64 (r : Int), .int .i64 (c : Int), .slice A n cap]) (hr : (r : Int) ≤ 1000000) (hn : n = r * c) (hn9 : (n : Int) ≤ 1000000000) (hc : n ≤ cap)
    (SB : Nat → Prop) (hSB : ¬ SB bm ∧ ¬ SB w.heap.size ∧ ¬ SB (w.heap.size + 1)) (I : Nat → World → Prop) (hI : ∀ i W W', I i W → Fr (fun k => k = w.heap.size + 1) W W' → I i W') (h0 : ∀ W, Below w.heap.size w W → W.heap.size = w.heap.size + 2 → I 0 W)
    (hround : ∀ (l i : Nat) (W : World), I i W → i < r → assign.wpIn (Fence.wide.inRound l) 3 Try.prog (Exit.then (fun a₁ W₁ => W₁ = W ∧ ∀ W2, I i W2 → body.wpIn (Fence.wide.inRound l) 3 Try.prog (postR SB I i W2) a₁ W2) (fun _ _ _ => False))
      { tmps := (a.tmps.setIfInBounds p (.int .i64 (i : Int))).setIfInBounds q (.slice (rowA A c i) c c), defers := [] } W)
    (hdone : ∀ (D : Nat) (W : World), D = w.heap.size → I r W → W.heap[D]? = some (.deferred (some [])) → Q .normal { a with defers := { target := .collected D, args := #[] } :: a.defers } W) :
    (Code.rangeFunc g #[p, q] assign body).wpIn Fence.wide 5 Try.prog Q a w := by
  refine wpIn_rangeT (gf := 57) (lb := #[.pointer (some ⟨bm, 0, none⟩)]) (encs := rowV A c) hg (enters_of Try.func57 (by kernel_rfl) rfl) (fun _ => rfl)
    (fun pre W => I pre.length W) (fun _ _ _ => False) (fun pre x _ => x = pre.length ∧ x < r) SB (S := fun xs => xs.length = r) (Sp := fun _ => False) ⟨hSB.2.1, hSB.2.2⟩
    (rows_callT w bm r c A n cap hbm hr hn hn9 hc SB hSB.1 _ (fun pre W W' h hb => hI _ _ _ h (Fr.quiet hb))) (fun pre W W' h hf => hI _ _ _ h hf) (fun _ _ _ _ h _ => h) (fun _ _ _ _ h _ => h)
    (fun W hb hs => h0 W hb hs) ?_ ?_ ?_
  · rintro l pre x W hi ⟨rfl, hx⟩
    rw [show (#[p, q].zip (rowV A c pre.length)).foldl (fun t (p, v) => t.setIfInBounds p v) a.tmps = (a.tmps.setIfInBounds p (.int .i64 (pre.length : Int))).setIfInBounds q (.slice (rowA A c pre.length) c c) from by simp [rowV]]
    refine wpIn_mono (hround l pre.length W hi hx) ?_
    rintro e a1 W0 he
    cases e with
    | normal =>
      obtain ⟨h1, h2⟩ : W0 = W ∧ _ := he
      refine ⟨h1, fun W2 hi2 _ => wpIn_mono (h2 W2 hi2) ?_⟩
      rintro e3 a3 W3 h3
      cases e3 with
      | normal => exact ⟨h3.1, by show I (pre ++ [pre.length]).length W3; rw [List.length_append]; exact h3.2⟩
      | _ => exact h3.elim
    | _ => exact he.elim
  · rintro D xs W hD hxs hi hK
    have hxs : xs.length = r := hxs
    rw [← hxs] at hdone
    exact hdone D W hD hi hK
  · rintro D c pre W _ h _ _
    exact h.elim

def packR (n : Nat) (m : M) (i : Nat) : List UInt8 := (List.range (n - i)).map fun j => m i (i + j)
def packS (n : Nat) (m : M) (k : Nat) : List UInt8 := (List.range k).flatMap (packR n m)
theorem packR_len (n : Nat) (m : M) (i : Nat) : (packR n m i).length = n - i := by simp [packR]
theorem packS_succ (n : Nat) (m : M) (k : Nat) : packS n m (k + 1) = packS n m k ++ packR n m k := by
  unfold packS; rw [List.range_succ, List.flatMap_append, List.flatMap_singleton]
theorem packS_len (n : Nat) (m : M) : ∀ k, (packS n m k).length = offS n k
  | 0 => rfl
  | k + 1 => by rw [packS_succ, List.length_append, packS_len n m k, packR_len]; rfl
theorem offS_max {n k : Nat} (hn : n ≤ 65536) (hk : k ≤ n) : offS n k ≤ 65536 * 65536 := by
  have h1 : offS n k ≤ offS n n := offS_mono hk
  have h2 := offS_len n
  have h3 : n * (n + 1) ≤ 65536 * 65537 := Nat.mul_le_mul hn (by omega)
  omega
/-- While Packed goes on: b's box gb, its bytes. -/
structure PackI (w : World) (gb D n : Nat) (m : M) (i : Nat) (W : World) : Prop where
  below : Below w.heap.size w W
  lt : D + 2 ≤ W.heap.size
  bx : ∃ A c, Blk W gb 22 #[.slice A (offS n i) c] ∧ Mem.Own W (D + 2) 5 A c ((packS n m i).map u8v)
def PackOk (w : World) (n : Nat) (m : M) (e : Ending) (w' : World) : Prop := ∃ A c, e = .returned (.tuple #[.slice A (offS n n) c, .int .i64 0]) ∧ offS n n ≤ c ∧ Nw w.heap.size w' A (packS n m n) ∧ Below w.heap.size w w'
set_option maxRecDepth 100000 in
set_option maxHeartbeats 4000000 in
theorem packed_ok (w : World) (r : Nat) (A : Option Addr) (n cap : Nat) (m : M) (hn : n = r * r) (hrt : rightB r r n = true) (hcap : n ≤ cap) (hn9 : (n : Int) ≤ 1000000000) (hA : Bytes w w.heap.size A (flat r r m)) (hsm : flat r r (fun a b => m b a) = flat r r m) :
    Calls Try.prog 39 #[.agg #[.int .i64 (r : Int), .int .i64 (r : Int), .slice A n cap]] w (PackOk w r m) := by
  have hr : r ≤ 65536 := by have h := of_decide_eq_true hrt; omega
  obtain ⟨i0, hi0, hz0, hz1, hz2⟩ : ∃ i : TypeInfo, Try.prog.info? 5 = some i ∧ i.zero = some (.int .u8 0) ∧ i.size = 1 ∧ i.bytes = 1 := ⟨_, rfl, rfl, rfl, rfl⟩
  refine of_wide ?_
  refine callsIn_of_wp_marks Try.func39 rfl trivial ?_ rfl
  refine wpIn_wide.2 ?_
  simp only [Try.ntmps39, List.size_toArray, List.length_cons, List.length_nil, Nat.reduceAdd, Nat.reduceSub, Array.replicate_succ, Array.replicate_zero, List.push_toArray, List.append_toArray, List.nil_append, List.cons_append]
  obtain ⟨w1, ga, h1, hw1, hga⟩ := boxed w (mcells r r A n cap)
  have HW1 := Lib.hid (show w.alloc (.cells #[.int .i64 (r : Int), .int .i64 (r : Int), .slice A n cap] 27) = w1 from hw1)
  have HG := Lib.hid hga
  have H1 := Lib.hid h1
  have HL := Lib.hid (And.intro hn (And.intro hcap (And.intro hn9 hr)))
  have HA := Lib.hid hA
  have HSM := Lib.hid hsm
  have HRT := Lib.hid hrt
  obtain ⟨⟨c0, c1, c2⟩, _⟩ := cells3 h1.2.1
  rw [← HW1.out] at c0 c1 c2
  clear h1 hw1 hga hn hcap hn9 hr hA hsm hrt
  go_wp2_with fail
  rw [HW1.out, HG.out]
  refine (turned_ok w1 r r A n cap m HL.out.1 HRT.out HL.out.2.1 HL.out.2.2.1 ((HA.out.below H1.out.1).up H1.out.1.size)).mono ?_
  rintro e w2 ⟨A2, cq, rfl, hc2, hnw, hb⟩
  have H2 := Lib.hid (show Below w.heap.size w w2 ∧ Blk w2 ga 27 (mcells r r A n cap) ∧ r * r ≤ cq ∧ Nw w1.heap.size w2 A2 (flat r r fun a b => m b a) from ⟨next H1.out.1 hb, H1.out.2.1.keep hb, hc2, hnw⟩)
  obtain ⟨w3, gt, h3, hw3, hgt⟩ := boxed w2 (mcells r r A2 (r * r) cq)
  have H3 := Lib.hid (show Below w.heap.size w w3 ∧ Blk w3 ga 27 (mcells r r A n cap) ∧ Blk w3 gt 27 (mcells r r A2 (r * r) cq) ∧ Nw w1.heap.size w3 A2 (flat r r fun a b => m b a) from ⟨next H2.out.1 h3.1, H2.out.2.1.keep h3.1, h3.2.1, hnw.keep h3.1⟩)
  have HG3 := Lib.hid hgt
  have HW3 := Lib.hid (show w2.alloc (.cells #[.int .i64 (r : Int), .int .i64 (r : Int), .slice A2 (r * r) cq] 27) = w3 from hw3)
  have HS := Lib.hid (show w.heap.size ≤ w1.heap.size ∧ w1.heap.size ≤ w2.heap.size ∧ w3.heap.size = w2.heap.size + 1 ∧ w.heap.size = ga ∧ w1.heap.size = ga + 1 from ⟨H1.out.1.size, hb.size, by have := h3.2.2; omega, HG.out, H1.out.2.2⟩)
  obtain ⟨⟨b0, b1, b2⟩, _⟩ := cells3 H3.out.2.1
  rw [← HW3.out] at b0 b1 b2
  clear hb hc2 hnw c0 c1 c2 h3 hw3
  go_wp2_with fail
  rw [HW3.out]
  clear hgt b0 b1 b2
  refine (same_any w3 _ _ _ _ A2 A (flat r r fun a b => m b a) (flat r r m) (r * r) cq n cap w3.heap.size w.heap.size (by rw [flat_len]) (by rw [flat_len]; exact HL.out.1.symm) (Nat.le_refl _) H3.out.1.size H3.out.2.2.2.1 (HA.out.below H3.out.1)).mono ?_
  rintro e w4 ⟨rfl, hb⟩
  rw [show sameB (r : Int) r r r (flat r r fun a b => m b a) (flat r r m) = true from decide_eq_true ⟨rfl, rfl, HSM.out⟩]
  have H4 := Lib.hid (show Below w.heap.size w w4 ∧ Blk w4 ga 27 (mcells r r A n cap) ∧ w3.heap.size ≤ w4.heap.size from ⟨next H3.out.1 hb, H3.out.2.1.keep hb, hb.size⟩)
  obtain ⟨⟨b0, b1, b2⟩, _⟩ := cells3 H4.out.2.1
  obtain ⟨w5, gb, h5, hw5, hgb⟩ := boxedT w4 #[.slice none 0 0] 22
  have HW5 := Lib.hid (show w4.alloc (.cells #[.slice none 0 0] 22) = w5 from hw5)
  have HG5 := Lib.hid hgb
  have H5 := Lib.hid h5
  obtain ⟨⟨d0, d1, d2⟩, _⟩ := cells3 (H4.out.2.1.keep h5.1)
  rw [← HW5.out] at d0 d1 d2
  clear hb hw5 hgb h5 b0 b1 b2
  go_wp2_with fail
  rw [HW5.out, HG5.out]
  refine (rows_any w5 _ _ _).mono ?_
  rintro e w6' ⟨rfl, rfl⟩
  obtain ⟨w6, bm, h6, hw6, hbm⟩ := boxed w5 (mcells r r A n cap)
  have HW6 := Lib.hid (show w5.alloc (.cells #[.int .i64 (r : Int), .int .i64 (r : Int), .slice A n cap] 27) = w6 from hw6)
  rw [HW6.out, hbm]
  have hap : w.heap.size = ga ∧ ga < gb ∧ bm = gb + 1 ∧ w6.heap.size = bm + 1 := by
    have k1 := HS.out; have k2 := H4.out.2.2; have k3 := HG5.out; have k4 := H5.out.2.2; have k5 := h6.2.2
    omega
  have HAP := Lib.hid hap
  have H6 := Lib.hid (show Below w.heap.size w w6 ∧ Blk w6 gb 22 #[.slice none 0 0] ∧ Blk w6 bm 27 (mcells r r A n cap) from ⟨next (next H4.out.1 H5.out.1) h6.1, H5.out.2.1.keep h6.1, h6.2.1⟩)
  clear hw6 hbm h6 hap d0 d1 d2
  go_wp2_with fail
  refine (wpIn_wide (n := 5)).1 ?_
  refine wpIn_rows2 bm r r A n cap rfl H6.out.2.2 (by have := HL.out; omega) HL.out.1 HL.out.2.2.1 HL.out.2.1 (fun k => k = gb ∨ w6.heap.size + 2 ≤ k) (by have := HAP.out; omega)
    (fun i W => PackI w gb w6.heap.size r m i W) ?hI ?h0 ?hround ?hdone
  case hI =>
    intro i W W' h hf
    have hap := HAP.out
    obtain ⟨B, cb, h1, h2⟩ := h.bx
    exact ⟨h.below.trans (hf.below h.below.size fun k e => by omega), Nat.le_trans h.lt hf.size, B, cb, h1.fr hf (by omega), Own.fr h2 hf (fun g' e1 e2 => by
      rcases h2.form with ⟨e3, _⟩ | ⟨g2, e3, hb2, _⟩
      · rw [e1] at e3; cases e3
      · rw [e1] at e3; injection e3 with e3; have := congrArg Addr.block e3; dsimp only at this; omega)⟩
  case h0 =>
    intro W hb hs
    exact ⟨next H6.out.1 hb, by omega, none, 0, H6.out.2.1.keep hb, Own.nil⟩
  case hround =>
    intro ln i W hi hlt
    obtain ⟨ab, off, hX, hab, _, hcs⟩ := row_at (HA.out.below hi.below) hlt (show 0 < r by omega)
    rw [hX]
    have HX := Lib.hid hX
    have HLT := Lib.hid hlt
    have HAB := Lib.hid hab
    have hii0 : (0 : Int) ≤ (i : Int) := by omega
    have hin : (i : Int) ≤ (r : Int) := by omega
    have hir : ¬ r = i := by omega
    clear hlt hi hX hab hcs
    gi_wp2
    refine ⟨trivial, fun W2 hi2 => ?_⟩
    obtain ⟨B, cb, hb2, ho2⟩ := hi2.bx
    obtain ⟨ab', off', e3, _, _, hcs⟩ := row_at (HA.out.below hi2.below) HLT.out (show 0 < r by have := HLT.out; omega)
    have HI := Lib.hid hi2
    have HB2 := Lib.hid hb2
    have HO2 := Lib.hid ho2
    have hr2 : Bytes W2 w.heap.size (some ⟨ab, off + i, none⟩) (packR r m i) := fun _ => ⟨ab, off + i, rfl, HAB.out, fun j v hv => by
      have hX2 := HX.out.symm.trans e3
      injection hX2 with hX2
      have hx3 := congrArg Addr.off hX2
      have hx4 := congrArg Addr.block hX2
      dsimp only at hx3 hx4
      obtain ⟨hj, hv⟩ := List.getElem?_eq_some_iff.1 hv
      rw [List.length_map, packR_len] at hj
      subst hx3 hx4
      rw [List.getElem_map] at hv
      have := hcs (i + j) (by omega)
      rw [← hv, Nat.add_assoc, this]
      simp [packR, u8v]⟩
    have HR2 := Lib.hid hr2
    have HMX := Lib.hid (show offS r i + (r - i) ≤ maxLen ∧ (offS r i + (r - i)) * 1 ≤ 140737488355328 from by
      have h1 := offS_max HL.out.2.2.2 (show i + 1 ≤ r from HLT.out)
      have h2 : offS r (i + 1) = offS r i + (r - i) := rfl
      rw [← h2]
      generalize offS r (i + 1) = q at h1
      simp [maxLen]; omega)
    clear hi2 hb2 ho2 e3 hcs hr2
    gi_wp2
    --HELD pack8
    refine wpIn_only ?_
    refine wpIn_heldG (fun w' => Blk w' gb 22 #[.slice B (offS r i) cb]) [5] (by kernel_rfl) (by kernel_rfl) (fun ⟨_, _, h⟩ => h) ?hs0 ?rg0
    case hs0 =>
      exact HB2.out
    case rg0 =>
    intro hHeld
    refine tkG 0 ⟨some 26, .load 22 (.tmp 6), 22, _, #[], none⟩ (v := ?_) ?_ (by assumption) ?_
    rotate_left
    · intro w hSw
      try dsimp only at hSw
      have c0 := hSw.cell 0
      go_simp
      try with_reducible rfl
    try simp only [Act.put, List.setIfInBounds_toArray, List.set_cons_zero, List.set_cons_succ]
    refine puG 1 ⟨some 27, .move (.tmp 8), 22, _, #[], none⟩ (v := ?_) ?_ (fun _ => by assumption) ?_
    rotate_left
    · intro w hSw
      try dsimp only at hSw
      go_simp
      try with_reducible rfl
    try simp only [Act.put, List.setIfInBounds_toArray, List.set_cons_zero, List.set_cons_succ]
    refine puG 2 ⟨some 28, .move (.tmp 7), 3, _, #[], none⟩ (v := ?_) ?_ (fun _ => by assumption) ?_
    rotate_left
    · intro w hSw
      try dsimp only at hSw
      go_simp
      try with_reducible rfl
    try simp only [Act.put, List.setIfInBounds_toArray, List.set_cons_zero, List.set_cons_succ]
    refine puG 3 ⟨some 29, .slice 22 (.tmp 27) (some (.tmp 28)) none none, 22, _, #[⟨1, .data⟩, ⟨2, .data⟩], none⟩ (v := ?_) ?_ (fun _ => by assumption) ?_
    rotate_left
    · intro w hSw
      try dsimp only at hSw
      go_simp
      try with_reducible rfl
    try simp only [Act.put, List.setIfInBounds_toArray, List.set_cons_zero, List.set_cons_succ]
    refine onG 4 ⟨some 30, .call { callee := Callee.builtin Builtin.append, args := #[.tmp 26, .tmp 29], argTypes := #[22, 22] }, 22, _, #[⟨0, .data⟩, ⟨3, .data⟩], none⟩ (fun K hK => ?_)
    refine step_app _ rfl _ _ _ rfl (w6.heap.size + 2) 5 i0 _ 1 Try.underlying22 hi0 hz0 hz1 hz2 rfl B cb (offS r i) ((packS r m i).map u8v) rfl (by rw [List.length_map, packS_len]) (HO2.out.keep (nextN (Mem.start W2) 1)) w.heap.size (some ⟨ab, off + i, none⟩) (r - i) (r - i) ((packR r m i).map u8v) rfl (by rw [List.length_map, packR_len]) HR2.out u8v_one (by rw [List.length_map, List.length_map, packS_len, packR_len]; exact HMX.out.1) (by rw [List.length_map, List.length_map, packS_len, packR_len]; exact HMX.out.2) HI.out.lt (offS r (i + 1)) rfl ?_
    intro A1 cx w7 ho7 hb7 hg7 hA7
    have H7 := Lib.hid (And.intro (show Mem.Own w7 (w6.heap.size + 2) 5 A1 cx ((packS r m (i + 1)).map u8v) from by rw [packS_succ, List.map_append]; exact ho7) (And.intro hg7 (show Blk w7 gb 22 #[.slice B (offS r i) cb] from hHeld.app (HO2.out.keep (nextN (Mem.start W2) 1)) (by decide) hg7)))
    clear ho7 hb7 hg7 hA7
    try dsimp only
    refine hK.out _ _ ?_ (fun hHeld => ?_)
    · intro _
      try dsimp only
      exact H7.out.2.2
    clear hK K
    try simp only [Act.put, List.setIfInBounds_toArray, List.set_cons_zero, List.set_cons_succ]
    have hHeld := hHeld (by kernel_rfl)
    refine onG 5 ⟨none, .store 22 (.tmp 6) (.tmp 30), 0, _, #[⟨4, .data⟩, ⟨4, .chain⟩, ⟨0, .phase⟩, ⟨1, .phase⟩, ⟨2, .phase⟩, ⟨3, .phase⟩, ⟨4, .phase⟩], none⟩ (fun K hK => ?_)
    have k1 := hHeld.cell 0
    have k2 := hHeld.frozen 0
    go_simp
    try dsimp only
    refine hK.out _ _ ?_ (fun hHeld => ?_)
    · exact fun h => (st_no (by kernel_rfl) h).elim
    clear hK K
    try simp only [Act.put, List.setIfInBounds_toArray, List.set_cons_zero, List.set_cons_succ]
    clear hHeld
    refine wpAnyG_done (by kernel_rfl) ?_ _
    refine onlyN_end ?_
    --END pack8
    have hap := HAP.out
    have hf7 : Fr (fun k => k = gb ∨ w6.heap.size + 2 ≤ k) W2 w7 := (Fr.quiet (nextN (Mem.start W2) 1)).trans (Fr.grown H7.out.2.1 fun k e => by
      rcases HO2.out.form with ⟨e3, _⟩ | ⟨g2, e3, hb2, _⟩
      · rw [e3] at e; cases e
      · rw [e3] at e; injection e with e; exact .inr (by rw [← e]; exact hb2)) fun _ _ h => h
    have hf8 := setF (p := gb) w7 ⟨gb, 0, none⟩ rfl (.slice A1 (offS r (i + 1)) cx)
    have hff := hf7.trans (hf8.mono (S' := fun k => k = gb ∨ w6.heap.size + 2 ≤ k) fun k _ e => .inl e) fun _ _ h => h
    exact ⟨hff, HI.out.below.trans (hff.below HI.out.below.size fun k e => by omega), Nat.le_trans HI.out.lt hff.size, A1, cx, H7.out.2.2.set_ 0 _, Own.fr H7.out.1 hf8 fun g' e1 e2 => by
      rcases H7.out.1.form with ⟨e3, _⟩ | ⟨g2, e3, hb2, _⟩
      · rw [e1] at e3; cases e3
      · rw [e1] at e3; injection e3 with e3; have := congrArg Addr.block e3; dsimp only at this; omega⟩
  case hdone =>
    intro D W hD hi hK
    obtain ⟨B, cb, hb2, ho2⟩ := hi.bx
    have H := Lib.hid hi
    have HK := Lib.hid (And.intro hD hK)
    have HB := Lib.hid hb2
    have HO := Lib.hid ho2
    have c0 : W.cell? ⟨gb, 0, none⟩ = some (.slice B (offS r r) cb) := hb2.cell 0
    clear hi hK hD hb2 ho2
    go_wp2_with fail
    have hst := shut_still (B := 0) (.deferred none) HK.out.2 rfl (Nat.zero_le _)
    have hap := HAP.out
    have hD := HK.out.1
    refine ⟨by simp, .inl ⟨_, _, rfl, run_takeDeferred HK.out.2, ?_⟩⟩
    refine ⟨.tuple #[.slice B (offS r r) cb, .int .i64 0], ?_, ?_⟩
    · simp [results, Try.results39, go_sem]
    · have hw := Own.fr HO.out (put_fr (k := D) (.deferred none)) fun g' e1 e2 => by
        rcases HO.out.form with ⟨e3, _⟩ | ⟨g2, e3, hb2, _⟩
        · rw [e1] at e3; cases e3
        · rw [e1] at e3; injection e3 with e3; have := congrArg Addr.block e3; dsimp only at this; omega
      exact ⟨B, cb, rfl, by have := HO.out.le; rwa [List.length_map, packS_len] at this, (Nw.of_own hw).mono (by have := H.out.below.size; omega), H.out.below.trans ((put_fr (k := D) _).below H.out.below.size fun k e => by omega)⟩
def PackNo (w : World) (e : Ending) (w' : World) : Prop := e = .returned (.tuple #[.slice none 0 0, .int .i64 50]) ∧ Below w.heap.size w w'
set_option maxRecDepth 100000 in
set_option maxHeartbeats 4000000 in
theorem packed_bad (w : World) (R C : Int) (A : Option Addr) (n cap : Nat) (hrt : rightB R C n = false) :
    Calls Try.prog 39 #[.agg #[.int .i64 R, .int .i64 C, .slice A n cap]] w (PackNo w) := by
  obtain ⟨w1, ga, h1, hw1, hga⟩ := boxed w #[.int .i64 R, .int .i64 C, .slice A n cap]
  have HW1 := Lib.hid hw1
  have HG := Lib.hid hga
  have H1 := Lib.hid h1
  have HRT := Lib.hid hrt
  obtain ⟨⟨c0, c1, c2⟩, _⟩ := cells3 h1.2.1
  rw [← HW1.out] at c0 c1 c2
  clear h1 hw1 hga hrt
  go_enter Try.func39, Try.ntmps39
  go_wp2_with fail
  rw [HW1.out, HG.out]
  refine (turned_bad w1 R C A n cap HRT.out).mono ?_
  rintro e w2 ⟨rfl, hb⟩
  have H2 := Lib.hid (next H1.out.1 hb)
  clear hb c0 c1 c2
  go_wp2_with fail
  refine bodyPost_ret (v := .tuple #[.slice none 0 0, .int .i64 50]) (by simp [results, Try.results39, go_sem]) rfl ⟨rfl, ?_⟩
  exact next H2.out (nextA (Mem.start w2) _)
set_option maxRecDepth 100000 in
set_option maxHeartbeats 4000000 in
theorem packed_no (w : World) (r c : Nat) (A : Option Addr) (n cap : Nat) (m : M) (hn : n = r * c) (hrt : rightB r c n = true) (hcap : n ≤ cap) (hn9 : (n : Int) ≤ 1000000000) (hA : Bytes w w.heap.size A (flat r c m)) (hsm : sameB (c : Int) r r c (flat c r fun a b => m b a) (flat r c m) = false) :
    Calls Try.prog 39 #[.agg #[.int .i64 (r : Int), .int .i64 (c : Int), .slice A n cap]] w (PackNo w) := by
  obtain ⟨w1, ga, h1, hw1, hga⟩ := boxed w (mcells r c A n cap)
  have HW1 := Lib.hid (show w.alloc (.cells #[.int .i64 (r : Int), .int .i64 (c : Int), .slice A n cap] 27) = w1 from hw1)
  have HG := Lib.hid hga
  have H1 := Lib.hid h1
  have HL := Lib.hid (And.intro hn (And.intro hcap hn9))
  have HA := Lib.hid hA
  have HSM := Lib.hid hsm
  have HRT := Lib.hid hrt
  obtain ⟨⟨c0, c1, c2⟩, _⟩ := cells3 h1.2.1
  rw [← HW1.out] at c0 c1 c2
  clear h1 hw1 hga hn hcap hn9 hA hsm hrt
  go_enter Try.func39, Try.ntmps39
  go_wp2_with fail
  rw [HW1.out, HG.out]
  refine (turned_ok w1 r c A n cap m HL.out.1 HRT.out HL.out.2.1 HL.out.2.2 ((HA.out.below H1.out.1).up H1.out.1.size)).mono ?_
  rintro e w2 ⟨A2, cq, rfl, hc2, hnw, hb⟩
  have H2 := Lib.hid (show Below w.heap.size w w2 ∧ Blk w2 ga 27 (mcells r c A n cap) from ⟨next H1.out.1 hb, H1.out.2.1.keep hb⟩)
  obtain ⟨w3, gt, h3, hw3, hgt⟩ := boxed w2 (mcells c r A2 (c * r) cq)
  have H3 := Lib.hid (show Below w.heap.size w w3 ∧ Blk w3 ga 27 (mcells r c A n cap) ∧ Nw w1.heap.size w3 A2 (flat c r fun a b => m b a) from ⟨next H2.out.1 h3.1, H2.out.2.keep h3.1, hnw.keep h3.1⟩)
  have HW3 := Lib.hid (show w2.alloc (.cells #[.int .i64 (c : Int), .int .i64 (r : Int), .slice A2 (c * r) cq] 27) = w3 from hw3)
  obtain ⟨⟨b0, b1, b2⟩, _⟩ := cells3 H3.out.2.1
  rw [← HW3.out] at b0 b1 b2
  clear hb hc2 hnw c0 c1 c2 h3 hw3
  go_wp2_with fail
  rw [HW3.out]
  clear hgt b0 b1 b2
  refine (same_any w3 _ _ _ _ A2 A (flat c r fun a b => m b a) (flat r c m) (c * r) cq n cap w3.heap.size w.heap.size (by rw [flat_len]) (by rw [flat_len]; exact HL.out.1.symm) (Nat.le_refl _) H3.out.1.size H3.out.2.2.1 (HA.out.below H3.out.1)).mono ?_
  rintro e w4 ⟨rfl, hb⟩
  rw [HSM.out]
  have H4 := Lib.hid (next H3.out.1 hb)
  clear hb
  go_wp2_with fail
  exact bodyPost_ret (v := .tuple #[.slice none 0 0, .int .i64 50]) (by simp [results, Try.results39, go_sem]) rfl ⟨rfl, H4.out⟩
end Go.Proofs.Ythdapoipfnnaeaa.MxW
/- Linear algebra, plain: products; what the reduced form tells. -/
namespace Go.Proofs.Ythdapoipfnnaeaa.Mx
open Gf
set_option linter.unusedVariables false
set_option linter.unusedSectionVars false

theorem xsum_zero {n : Nat} {f : Nat → UInt8} (h : ∀ j, j < n → f j = 0) : xsum n f = 0 := by
  induction n with
  | zero => rfl
  | succ n ih => unfold xsum; rw [ih fun j hj => h j (by omega), h n (by omega)]; rfl
theorem xsum_xor (n : Nat) (f g : Nat → UInt8) : xsum n (fun j => f j ^^^ g j) = xsum n f ^^^ xsum n g := by
  induction n with
  | zero => show (0 : UInt8) = 0 ^^^ 0; decide
  | succ n ih => unfold xsum; rw [ih, Pl.xor4]
theorem mul_xsum (c : UInt8) (n : Nat) (f : Nat → UInt8) : mul c (xsum n f) = xsum n fun j => mul c (f j) := by
  induction n with
  | zero => exact mul_zero c
  | succ n ih => unfold xsum; rw [mul_xor, ih]
theorem xsum_mul (c : UInt8) (n : Nat) (f : Nat → UInt8) : mul (xsum n f) c = xsum n fun j => mul (f j) c := by
  rw [mul_comm, mul_xsum]; exact xsum_congr fun j _ => mul_comm _ _
theorem xsum_swap (m n : Nat) (f : Nat → Nat → UInt8) : xsum m (fun i => xsum n fun j => f i j) = xsum n fun j => xsum m fun i => f i j := by
  induction m with
  | zero => exact (xsum_zero fun j _ => rfl).symm
  | succ m ih =>
    show xsum m (fun i => xsum n fun j => f i j) ^^^ xsum n (fun j => f m j) = _
    rw [ih, ← xsum_xor]; rfl
theorem xsum_one {n k : Nat} (hk : k < n) {f : Nat → UInt8} (h : ∀ j, j < n → j ≠ k → f j = 0) : xsum n f = f k := by
  induction n with
  | zero => omega
  | succ n ih =>
    unfold xsum
    by_cases e : k = n
    · subst e
      rw [xsum_zero fun j hj => h j (by omega) (by omega), UInt8.zero_xor]
    · rw [ih (by omega) fun j hj hj2 => h j (by omega) hj2, h n (by omega) (by omega), UInt8.xor_zero]
theorem mulM_assoc (c d : Nat) (a b e : M) (i k : Nat) : mulM d (mulM c a b) e i k = mulM c a (mulM d b e) i k := by
  unfold mulM
  rw [xsum_congr fun j _ => xsum_mul (e j k) c fun l => mul (a i l) (b l j), xsum_swap]
  refine xsum_congr fun l _ => ?_
  rw [mul_xsum]
  exact xsum_congr fun j _ => mul_assoc _ _ _
def idm' : M := fun i k => if i = k then 1 else 0
theorem mulM_id {c k : Nat} (a : M) (i : Nat) (hk : k < c) : mulM c a idm' i k = a i k := by
  unfold mulM
  rw [xsum_one hk fun j _ hj => by unfold idm'; rw [if_neg hj, mul_zero]]
  unfold idm'; rw [if_pos rfl, mul_one]
theorem id_mulM {r i : Nat} (a : M) (hi : i < r) (k : Nat) : mulM r idm' a i k = a i k := by
  unfold mulM
  rw [xsum_one hi fun j _ hj => by unfold idm'; rw [if_neg (Ne.symm hj), zero_mul]]
  unfold idm'; rw [if_pos rfl, one_mul]
theorem mulM_turn (c : Nat) (a b : M) (i k : Nat) : mulM c a b k i = mulM c (fun x y => b y x) (fun x y => a y x) i k := xsum_congr fun j _ => mul_comm _ _

/-! Steps by rows. -/
section
variable {r c a b i k : Nat} {X X' : M}
theorem swap_iff (ha : a < r) (hb : b < r) : (∀ i, i < r → swapM X a b i k = swapM X' a b i k) ↔ ∀ i, i < r → X i k = X' i k := by
  unfold swapM
  constructor
  · intro h i hi
    by_cases e : i = b
    · have := h a ha
      rwa [if_pos rfl, if_pos rfl, ← e] at this
    · by_cases e2 : i = a
      · have := h b hb
        by_cases e3 : b = a
        · omega
        · rwa [if_neg e3, if_neg e3, if_pos rfl, if_pos rfl, ← e2] at this
      · have := h i hi
        rwa [if_neg e2, if_neg e2, if_neg e, if_neg e] at this
  · intro h i hi
    by_cases e : i = a
    · rw [if_pos e, if_pos e]; exact h b hb
    · rw [if_neg e, if_neg e]
      by_cases e2 : i = b
      · rw [if_pos e2, if_pos e2]; exact h a ha
      · rw [if_neg e2, if_neg e2]; exact h i hi
theorem scale_iff {v : UInt8} (hv : v ≠ 0) : (∀ i, i < r → scaleM X a v i k = scaleM X' a v i k) ↔ ∀ i, i < r → X i k = X' i k := by
  unfold scaleM
  constructor
  · intro h i hi
    have := h i hi
    by_cases e : i = a
    · rw [if_pos e, if_pos e] at this
      have h2 := congrArg (fun z => mul z (inv v)) this
      simpa only [mul_assoc, mul_inv hv, mul_one] using h2
    · rwa [if_neg e, if_neg e] at this
  · intro h i hi
    rw [h i hi]
theorem elim_iff (t : Nat → UInt8) (ha : a < r) : (∀ i, i < r → elim t X a i k = elim t X' a i k) ↔ ∀ i, i < r → X i k = X' i k := by
  unfold elim
  constructor
  · intro h i hi
    have h0 := h a ha
    rw [if_pos rfl, if_pos rfl] at h0
    have := h i hi
    by_cases e : i = a
    · rwa [if_pos e, if_pos e] at this
    · rw [if_neg e, if_neg e, h0] at this
      have h2 := congrArg (fun z => z ^^^ mul (X' a k) (t i)) this
      simpa only [UInt8.xor_assoc, UInt8.xor_self, UInt8.xor_zero] using h2
  · intro h i hi
    rw [h i hi, h a ha]
theorem step_iff (A : M) {f n : Nat} (ha : a < r) (hf : f < r) (h0 : A f n ≠ 0) : (∀ i, i < r → stepX A X a f n i k = stepX A X' a f n i k) ↔ ∀ i, i < r → X i k = X' i k :=
  (elim_iff _ ha).trans ((scale_iff (inv_ne h0)).trans (swap_iff ha hf))
theorem mulM_swap (X x : M) (a b : Nat) : mulM c (swapM X a b) x = swapM (mulM c X x) a b := by
  funext i k
  unfold mulM swapM
  by_cases e : i = a
  · simp only [if_pos e]
  · simp only [if_neg e]
    by_cases e2 : i = b
    · simp only [if_pos e2]
    · simp only [if_neg e2]
theorem mulM_scale (X x : M) (a : Nat) (v : UInt8) : mulM c (scaleM X a v) x = scaleM (mulM c X x) a v := by
  funext i k
  unfold mulM scaleM
  by_cases e : i = a
  · simp only [if_pos e]
    rw [xsum_mul]
    exact xsum_congr fun j _ => by rw [mul_assoc, mul_comm v, mul_assoc]
  · simp only [if_neg e]
theorem mulM_elim (t : Nat → UInt8) (X x : M) (a : Nat) : mulM c (elim t X a) x = elim t (mulM c X x) a := by
  funext i k
  unfold mulM elim
  by_cases e : i = a
  · simp only [if_pos e]
  · simp only [if_neg e]
    rw [xsum_mul, ← xsum_xor]
    exact xsum_congr fun j _ => by rw [xor_mul, mul_assoc, mul_assoc, mul_comm (t i)]
theorem step_mul (A X x : M) (a f n : Nat) : mulM c (stepX A X a f n) x = stepX A (mulM c X x) a f n := by
  unfold stepX pivB
  rw [mulM_elim, mulM_scale, mulM_swap]
theorem step_zero (A : M) (a f n : Nat) : stepX A (fun _ _ => 0) a f n = fun _ _ => 0 := by
  have h : pivB A (fun _ _ => 0) a f n = fun _ _ => 0 := by
    funext i k
    unfold pivB scaleM swapM
    simp only [ite_self, zero_mul]
  funext i k
  unfold stepX elim
  rw [h]
  simp only [zero_mul, UInt8.xor_zero, ite_self]
end
/-! The reduced form. -/
section
variable {A B B' : M} {r c n : Nat}
theorem redTo_A (A B B' : M) (r : Nat) : ∀ n, (redTo r A B n).A = (redTo r A B' n).A ∧ (redTo r A B n).at_ = (redTo r A B' n).at_
  | 0 => ⟨rfl, rfl⟩
  | n + 1 => by
    obtain ⟨h1, h2⟩ := redTo_A A B B' r n
    unfold redTo redStep
    rw [h1, h2]
    split
    · exact ⟨rfl, rfl⟩
    · exact ⟨h1, h2⟩
theorem redTo_iff (A B B' : M) (r k : Nat) : ∀ n, (∀ i, i < r → (redTo r A B n).B i k = (redTo r A B' n).B i k) ↔ ∀ i, i < r → B i k = B' i k
  | 0 => Iff.rfl
  | n + 1 => by
    obtain ⟨h1, h2⟩ := redTo_A A B B' r n
    have ih := redTo_iff A B B' r k n
    have ha := (redTo_at (A := A) (B := B') (r := r) n).1
    unfold redTo redStep
    rw [h1, h2]
    by_cases h : find (redTo r A B' n).A r n (redTo r A B' n).at_ < r
    · rw [if_pos h, if_pos h]
      have := find_ge (A := (redTo r A B' n).A) (r := r) (k := n) (i := (redTo r A B' n).at_)
      exact (step_iff _ (by omega) h (find_ne h)).trans ih
    · rw [if_neg h, if_neg h]; exact ih
theorem redTo_mul (A x : M) (r c : Nat) : ∀ n, mulM c (redTo r A B n).A x = (redTo r A (mulM c A x) n).B
  | 0 => rfl
  | n + 1 => by
    obtain ⟨h1, h2⟩ := redTo_A A B (mulM c A x) r n
    have ih := redTo_mul A x r c n
    unfold redTo redStep
    rw [h1, h2]
    rw [h1] at ih
    split
    · show mulM c (stepX _ _ _ _ _) x = stepX _ _ _ _ _
      rw [step_mul, ih]
    · rw [h1]; exact ih
theorem redTo_zero (A : M) (r : Nat) : ∀ n, (redTo r A (fun _ _ => 0) n).B = fun _ _ => 0
  | 0 => rfl
  | n + 1 => by
    have ih := redTo_zero A r n
    unfold redTo redStep
    rw [ih]
    split
    · exact step_zero _ _ _ _
    · exact ih
/-- What a step makes of its own columns. -/
theorem step_col {A : M} {a f n : Nat} (h0 : A f n ≠ 0) (i : Nat) : stepX A A a f n i n = if i = a then 1 else 0 := by
  have h1 : pivA A a f n a n = 1 := by
    unfold pivA scaleM swapM
    rw [if_pos rfl, if_pos rfl]; exact mul_inv h0
  unfold stepX elim
  by_cases e : i = a
  · rw [if_pos e, if_pos e, e]; exact h1
  · rw [if_neg e, if_neg e]
    show pivA A a f n i n ^^^ mul (pivA A a f n a n) (pivA A a f n i n) = 0
    rw [h1, one_mul, UInt8.xor_self]
theorem step_old {A : M} {a f n k : Nat} (h0 : A a k = 0) (hf : A f k = 0) (i : Nat) : stepX A A a f n i k = A i k := by
  have hs : ∀ i, swapM A a f i k = A i k := by
    intro i
    unfold swapM
    by_cases e : i = a
    · rw [if_pos e, e, h0, hf]
    · rw [if_neg e]
      by_cases e2 : i = f
      · rw [if_pos e2, e2, h0, hf]
      · rw [if_neg e2]
  have h1 : pivA A a f n a k = 0 := by
    unfold pivA scaleM
    rw [if_pos rfl, hs, h0, zero_mul]
  unfold stepX elim
  by_cases e : i = a
  · rw [if_pos e, e, h0]; exact h1
  · rw [if_neg e]
    show pivA A a f n i k ^^^ mul (pivA A a f n a k) _ = A i k
    rw [h1, zero_mul, UInt8.xor_zero]
    unfold pivA scaleM
    rw [if_neg e, hs]
structure Red (r n : Nat) (s : RS) : Prop where
  zero : ∀ i, s.at_ ≤ i → i < r → ∀ k, k < n → s.A i k = 0
  piv : ∀ j, j < s.at_ → ∃ k, k < n ∧ ∀ i, i < r → s.A i k = if i = j then 1 else 0
theorem red_any (A B : M) (r : Nat) : ∀ n, Red r n (redTo r A B n)
  | 0 => ⟨fun _ _ _ k hk => absurd hk (Nat.not_lt_zero _), fun j hj => absurd hj (Nat.not_lt_zero _)⟩
  | n + 1 => by
    have ih := red_any A B r n
    have ha := redTo_at (A := A) (B := B) (r := r) n
    unfold redTo redStep
    generalize redTo r A B n = s at ih ha
    by_cases h : find s.A r n s.at_ < r
    · rw [if_pos h]
      have hg := find_ge (A := s.A) (r := r) (k := n) (i := s.at_)
      have hne := find_ne h
      generalize find s.A r n s.at_ = f at h hg hne
      refine ⟨fun i hi hir k hk => ?_, fun j hj => ?_⟩
      · dsimp only at hi ⊢
        by_cases e : k = n
        · rw [e, step_col hne, if_neg (by omega)]
        · rw [step_old (ih.zero _ (Nat.le_refl _) (by omega) k (by omega)) (ih.zero _ hg h k (by omega))]
          exact ih.zero i (by omega) hir k (by omega)
      · dsimp only at hj ⊢
        by_cases e : j = s.at_
        · exact ⟨n, by omega, fun i _ => by rw [step_col hne, e]⟩
        · obtain ⟨k, hk, hd⟩ := ih.piv j (by omega)
          exact ⟨k, by omega, fun i hi => by rw [step_old (ih.zero _ (Nat.le_refl _) (by omega) k hk) (ih.zero _ hg h k hk)]; exact hd i hi⟩
    · rw [if_neg h]
      refine ⟨fun i hi hir k hk => ?_, fun j hj => ?_⟩
      · by_cases e : k = n
        · rw [e]; exact find_zero (A := s.A) (r := r) (k := n) hi (by omega)
        · exact ih.zero i hi hir k (by omega)
      · obtain ⟨k, hk, hd⟩ := ih.piv j hj
        exact ⟨k, by omega, hd⟩
/-- With a pivot in each column. -/
theorem red_diag (A B : M) (r : Nat) : ∀ n, (redTo r A B n).at_ = n → ∀ k, k < n → ∀ i, i < r → (redTo r A B n).A i k = if i = k then 1 else 0
  | 0 => fun _ k hk => absurd hk (Nat.not_lt_zero _)
  | n + 1 => by
    have ih := red_diag A B r n
    have hr := red_any A B r n
    have ha := redTo_at (A := A) (B := B) (r := r) n
    intro hat k hk i hi
    unfold redTo redStep at hat ⊢
    generalize redTo r A B n = s at ih ha hat hr
    by_cases h : find s.A r n s.at_ < r
    · rw [if_pos h] at hat ⊢
      have hat2 : s.at_ + 1 = n + 1 := hat
      have hg := find_ge (A := s.A) (r := r) (k := n) (i := s.at_)
      have hne := find_ne h
      generalize find s.A r n s.at_ = f at h hg hne
      dsimp only
      by_cases e : k = n
      · rw [e, step_col hne]
        rw [show s.at_ = n by omega]
      · rw [step_old (hr.zero _ (Nat.le_refl _) (by omega) k (by omega)) (hr.zero _ hg h k (by omega))]
        exact ih (by omega) k (by omega) i hi
    · rw [if_neg h] at hat
      omega
theorem at_mono {m n : Nat} (h : m ≤ n) : (redTo r A B m).at_ ≤ (redTo r A B n).at_ := by
  induction n with
  | zero => rw [show m = 0 by omega]; exact Nat.le_refl _
  | succ n ih =>
    by_cases e : m = n + 1
    · rw [e]; exact Nat.le_refl _
    · refine Nat.le_trans (ih (by omega)) ?_
      show _ ≤ (redStep r n (redTo r A B n)).at_
      unfold redStep
      split
      · exact Nat.le_succ _
      · exact Nat.le_refl _
/-- A row times a column. -/
def dot (c : Nat) (f y : Nat → UInt8) : UInt8 := xsum c fun j => mul (f j) (y j)
/-- Where fewer pivots are than columns something is sent to nought. -/
theorem ker_any (A : M) (r : Nat) : ∀ c, (redTo r A (fun _ _ => 0) c).at_ < c → ∃ y : Nat → UInt8, (∃ j, j < c ∧ y j ≠ 0) ∧ ∀ i, i < r → dot c (A i) y = 0
  | 0 => fun h => absurd h (Nat.not_lt_zero _)
  | c + 1 => by
    intro h
    have ih := ker_any A r c
    by_cases hc : (redTo r A (fun _ _ => 0) c).at_ < c
    · obtain ⟨y, ⟨j, hj, hy⟩, h0⟩ := ih hc
      refine ⟨fun k => if k < c then y k else 0, ⟨j, by omega, by dsimp only; rw [if_pos hj]; exact hy⟩, fun i hi => ?_⟩
      have h1 := h0 i hi
      unfold dot at h1 ⊢
      show xsum c _ ^^^ _ = 0
      dsimp only
      rw [xsum_congr (g := fun j => mul (A i j) (y j)) fun j hj => by rw [if_pos hj], h1, if_neg (by omega), mul_zero]; rfl
    · have ha := redTo_at (A := A) (B := fun _ _ => 0) (r := r) c
      have hd := red_diag A (fun _ _ => 0) r c (by omega)
      have hm := redTo_mul (B := fun _ _ => 0) A (fun j _ => if j = c then 1 else if j < c then (redTo r A (fun _ _ => 0) c).A j c else 0) r (c + 1) c
      have hi := redTo_iff A (mulM (c + 1) A (fun j _ => if j = c then 1 else if j < c then (redTo r A (fun _ _ => 0) c).A j c else 0)) (fun _ _ => 0) r 0 c
      rw [← hm, redTo_zero] at hi
      have hz : ∀ i, i < r → c ≤ i → (redTo r A (fun _ _ => 0) c).A i c = 0 := by
        intro i h1 h2
        unfold redTo redStep at h
        by_cases hf : find (redTo r A (fun _ _ => 0) c).A r c (redTo r A (fun _ _ => 0) c).at_ < r
        · rw [if_pos hf] at h
          have : (redTo r A (fun _ _ => 0) c).at_ + 1 < c + 1 := h
          omega
        · exact find_zero (A := (redTo r A (fun _ _ => 0) c).A) (r := r) (k := c) (i := (redTo r A (fun _ _ => 0) c).at_) (by omega) (by omega)
      clear hm ih h
      generalize redTo r A (fun _ _ => 0) c = s at ha hd hi hz
      refine ⟨fun j => if j = c then 1 else if j < c then s.A j c else 0, ⟨c, by omega, by (try dsimp only); rw [if_pos rfl]; decide⟩, fun i hir => hi.1 (fun i hir => ?_) i hir⟩
      show xsum c _ ^^^ _ = 0
      (try dsimp only)
      rw [if_pos rfl, mul_one]
      by_cases e : i < c
      · rw [xsum_one e fun j hj hne => by (try dsimp only); rw [hd j hj i hir, if_neg (Ne.symm hne), zero_mul]]
        (try dsimp only)
        rw [hd i e i hir, if_pos rfl, one_mul, if_neg (by omega), if_pos e, UInt8.xor_self]
      · rw [xsum_zero fun j hj => by (try dsimp only); rw [hd j hj i hir, if_neg (by omega), zero_mul], hz i hir (by omega)]; rfl
/-- More unknowns than equations. -/
theorem more_unknowns (C : M) {d t : Nat} (h : d < t) : ∃ y : Nat → UInt8, (∃ j, j < t ∧ y j ≠ 0) ∧ ∀ i, i < d → dot t (C i) y = 0 := by
  have := (redTo_at (A := C) (B := fun _ _ => 0) (r := d) t).1
  exact ker_any C d t (by omega)
theorem dot_sum (c t : Nat) (f : Nat → UInt8) (p : Nat → Nat) (z : Nat → UInt8) (hp : ∀ l, l < t → p l < c) : dot c f (fun k => xsum t fun l => if p l = k then z l else 0) = dot t (fun l => f (p l)) z := by
  unfold dot
  rw [xsum_congr fun k _ => mul_xsum (f k) t fun l => if p l = k then z l else 0, xsum_swap]
  refine xsum_congr fun l hl => ?_
  rw [xsum_one (hp l hl) fun k _ hk => by rw [if_neg (Ne.symm hk), mul_zero], if_pos rfl]
/-- Where d rows send to nought only what r rows do, there are no more pivots than d. -/
theorem rank_le {d : Nat} (A D : M) (r c : Nat) (h : ∀ y, (∀ i, i < d → dot c (D i) y = 0) → ∀ i, i < r → dot c (A i) y = 0) : (redTo r A (fun _ _ => 0) c).at_ ≤ d := by
  refine Nat.le_of_not_lt fun hlt => ?_
  have hr := red_any A (fun _ _ => 0) r c
  have ha := redTo_at (A := A) (B := fun _ _ => 0) (r := r) c
  have hmul := fun x => redTo_mul (B := fun _ _ => 0) A x r c c
  have hif := fun B => redTo_iff A B (fun _ _ => 0) r 0 c
  rw [redTo_zero] at hif
  generalize redTo r A (fun _ _ => 0) c = s at hlt hr ha hmul hif
  obtain ⟨p, hp⟩ : ∃ p : Nat → Nat, ∀ j, j < s.at_ → p j < c ∧ ∀ i, i < r → s.A i (p j) = if i = j then 1 else 0 := by
    refine ⟨fun j => if hj : j < s.at_ then (hr.piv j hj).choose else 0, fun j hj => ?_⟩
    (try dsimp only)
    rw [dif_pos hj]
    exact (hr.piv j hj).choose_spec
  obtain ⟨z, ⟨j, hj, hz⟩, h0⟩ := more_unknowns (fun i l => D i (p l)) hlt
  have h1 := h (fun k => xsum s.at_ fun l => if p l = k then z l else 0) fun i hi => by
    rw [dot_sum c s.at_ (D i) p z fun l hl => (hp l hl).1]; exact h0 i hi
  have h2 := (hif (mulM c A fun k _ => xsum s.at_ fun l => if p l = k then z l else 0)).2 fun i hi => h1 i hi
  rw [← hmul] at h2
  have h3 : dot c (s.A j) (fun k => xsum s.at_ fun l => if p l = k then z l else 0) = 0 := h2 j (by omega)
  rw [dot_sum c s.at_ (s.A j) p z fun l hl => (hp l hl).1] at h3
  unfold dot at h3
  rw [xsum_one hj fun l hl hne => by (try dsimp only); rw [(hp l hl).2 j (by omega), if_neg (Ne.symm hne), zero_mul]] at h3
  dsimp only at h3
  rw [(hp j hj).2 j (by omega), if_pos rfl, one_mul] at h3
  exact hz h3
/-- Solutions: what is found is one, and what is one is found. -/
theorem sol_unique {x : M} {k : Nat} (ha : (redTo r A B c).at_ = c) (h : ∀ i, i < r → mulM c A x i k = B i k) : (∀ i, i < c → (redTo r A B c).B i k = x i k) ∧ ∀ i, c ≤ i → i < r → (redTo r A B c).B i k = 0 := by
  have h1 := (redTo_iff A (mulM c A x) B r k c).2 h
  rw [← redTo_mul (B := B)] at h1
  have h2 := red_diag A B r c ha
  have h3 := redTo_at (A := A) (B := B) (r := r) c
  refine ⟨fun i hi => ?_, fun i hi hir => ?_⟩
  · rw [← h1 i (by omega)]
    unfold mulM
    rw [xsum_one hi fun j hj hne => by (try dsimp only); rw [h2 j hj i (by omega), if_neg (Ne.symm hne), zero_mul]]
    (try dsimp only)
    rw [h2 i hi i (by omega), if_pos rfl, one_mul]
  · rw [← h1 i hir]
    unfold mulM
    exact xsum_zero fun j hj => by rw [h2 j hj i hir, if_neg (by omega), zero_mul]
theorem sol_is {k : Nat} (ha : (redTo r A B c).at_ = c) (hz : ∀ i, c ≤ i → i < r → (redTo r A B c).B i k = 0) : ∀ i, i < r → mulM c A (redTo r A B c).B i k = B i k := by
  refine (redTo_iff A (mulM c A (redTo r A B c).B) B r k c).1 ?_
  rw [← redTo_mul (B := B)]
  have h2 := red_diag A B r c ha
  have h3 := redTo_at (A := A) (B := B) (r := r) c
  intro i hir
  unfold mulM
  by_cases e : i < c
  · rw [xsum_one e fun j hj hne => by (try dsimp only); rw [h2 j hj i (by omega), if_neg (Ne.symm hne), zero_mul]]
    (try dsimp only)
    rw [h2 i e i (by omega), if_pos rfl, one_mul]
  · rw [hz i (by omega) hir]
    exact xsum_zero fun j hj => by rw [h2 j hj i hir, if_neg (by omega), zero_mul]
end
end Go.Proofs.Ythdapoipfnnaeaa.Mx
/- Powers at places: how many pivots there are. -/
namespace Go.Proofs.Ythdapoipfnnaeaa.Mx
open Gf Pl
set_option linter.unusedVariables false
set_option linter.unusedSectionVars false

theorem pow_rp (a : UInt8) (n : Nat) : pow a (n : Int) = rp a n := by
  by_cases h : a = 0
  · subst h
    cases n with
    | zero => rfl
    | succ n => rw [zero_pow (by omega)]; show 0 = mul (rp 0 n) 0; rw [mul_zero]
  · rw [pow_pw h, rp_pw h]
    refine pw_cong ?_
    rw [show ((n : Int) % 255).toNat = n % 255 by omega, Nat.mul_mod, Nat.mod_mod, ← Nat.mul_mod]
theorem row_succ (n : Nat) (y : Nat → UInt8) : row (n + 1) y = row n y ++ [y n] := by unfold row; rw [List.range_succ, List.map_append]; rfl
theorem dot_ev (x : UInt8) (y : Nat → UInt8) : ∀ n, dot n (fun k => pow x (k : Int)) y = ev (row n y) x
  | 0 => rfl
  | n + 1 => by
    rw [row_succ, ev_snoc, ← dot_ev x y n, row_len, ← pow_rp, mul_comm]; rfl
/-- The unlike ones among the first m. -/
def unl (xs : List UInt8) : Nat → List UInt8
  | 0 => []
  | m + 1 => if xs.getD m 0 ∈ unl xs m then unl xs m else unl xs m ++ [xs.getD m 0]
theorem unl_len (xs : List UInt8) : ∀ m, (unl xs m).length ≤ m
  | 0 => Nat.le_refl _
  | m + 1 => by
    have := unl_len xs m
    unfold unl
    split
    · omega
    · rw [List.length_append, List.length_singleton]; omega
theorem unl_mem (xs : List UInt8) (x : UInt8) : ∀ m, x ∈ unl xs m ↔ ∃ i, i < m ∧ xs.getD i 0 = x
  | 0 => ⟨fun h => absurd h (by unfold unl; exact List.not_mem_nil), fun ⟨i, hi, _⟩ => absurd hi (Nat.not_lt_zero _)⟩
  | m + 1 => by
    have ih := unl_mem xs x m
    unfold unl
    constructor
    · intro h
      split at h
      · obtain ⟨i, hi, e⟩ := ih.1 h; exact ⟨i, by omega, e⟩
      · rcases List.mem_append.1 h with h | h
        · obtain ⟨i, hi, e⟩ := ih.1 h; exact ⟨i, by omega, e⟩
        · exact ⟨m, by omega, (List.mem_singleton.1 h).symm⟩
    · rintro ⟨i, hi, e⟩
      by_cases e2 : i = m
      · subst e2
        split
        · next h => rw [← e]; exact h
        · rw [← e]; exact List.mem_append.2 (.inr (List.mem_singleton.2 rfl))
      · have := ih.2 ⟨i, by omega, e⟩
        split
        · exact this
        · exact List.mem_append.2 (.inl this)
theorem unl_nodup (xs : List UInt8) : ∀ m, (unl xs m).Nodup
  | 0 => by unfold unl; exact List.nodup_nil
  | m + 1 => by
    have ih := unl_nodup xs m
    unfold unl
    split
    · exact ih
    · next h =>
      refine List.nodup_append.2 ⟨ih, by simp, fun a ha b hb => ?_⟩
      rw [List.mem_singleton.1 hb]
      exact fun e => h (e ▸ ha)
/-- Rows of powers have as many pivots as there are unlike places. -/
theorem van_rank (xs : List UInt8) (n : Nat) : (redTo n (fun i k => pow (xs.getD i 0) (k : Int)) (fun _ _ => 0) n).at_ = (unl xs n).length := by
  apply Nat.le_antisymm
  · refine rank_le (d := (unl xs n).length) _ (fun i k => pow ((unl xs n).getD i 0) (k : Int)) n n fun y h i hi => ?_
    have hm : xs.getD i 0 ∈ unl xs n := (unl_mem xs _ n).2 ⟨i, hi, rfl⟩
    obtain ⟨j, hj, e⟩ := List.mem_iff_getElem.1 hm
    have h1 := h j hj
    (try dsimp only at h1)
    rw [List.getD_eq_getElem?_getD, List.getElem?_eq_getElem hj, Option.getD_some, e] at h1
    exact h1
  · refine Nat.le_trans (Nat.le_of_not_lt fun hlt => ?_) (at_mono (unl_len xs n))
    obtain ⟨y, ⟨j, hj, hy⟩, h0⟩ := ker_any _ n _ hlt
    have hl : len (row (unl xs n).length y) ≠ 0 := fun e => hy (by
      have := len_zero.1 e j
      rwa [cf, List.getD_eq_getElem?_getD, row_get hj, Option.getD_some] at this)
    have h1 := roots_le (unl xs n) (row (unl xs n).length y) (unl_nodup xs n) hl fun x hx => by
      obtain ⟨i, hi, e⟩ := (unl_mem xs x n).1 hx
      rw [← dot_ev, ← e]
      exact h0 i hi
    have h2 := len_le (row (unl xs n).length y)
    rw [row_len] at h2
    omega
end Go.Proofs.Ythdapoipfnnaeaa.Mx
/- Matrices as a law holds them: rows of bytes, boxes, perhaps a field; what each call leaves of them. -/
namespace Go.Proofs.Ythdapoipfnnaeaa.MxW
open Go.RowKit Go.Shelf Mem Gf FdW Mx Rng
open PlW (In)
set_option linter.unusedVariables false
set_option linter.unusedSectionVars false

structure Rw where
  A : Option Addr
  l : List UInt8
  c : Nat
/-- Since w0 nothing that was there has turned; these rows are there, these boxes of matrices, this field. -/
structure MS (w0 : World) (p : Option Nat) (R : List Rw) (X : List (Nat × Array Value)) (w : World) : Prop where
  below : Below w0.heap.size w0 w
  fld : ∀ q, p = some q → w0.heap.size ≤ q ∧ Fld w q
  row : ∀ r ∈ R, Bytes w w.heap.size r.A r.l ∧ (∀ q, p = some q → ∀ b o, r.A = some ⟨b, o, none⟩ → 0 < r.l.length → b ≠ q) ∧ r.l.length ≤ r.c
  box : ∀ x ∈ X, (∃ T, Blk w x.1 T x.2) ∧ ∀ q, p = some q → x.1 ≠ q
def MatR (w0 : World) (p : Option Nat) (R : List Rw) (X : List (Nat × Array Value)) (r c : Int) (n : Nat) (l : List UInt8) (e : Ending) (w' : World) : Prop :=
  ∃ A cap, e = .returned (.tuple #[.agg #[.int .i64 r, .int .i64 c, .slice A n cap], .int .i64 0]) ∧ MS w0 p (⟨A, l, cap⟩ :: R) X w'
def MatO (w0 : World) (p : Option Nat) (R : List Rw) (X : List (Nat × Array Value)) (r c : Int) (n : Nat) (l : List UInt8) (e : Ending) (w' : World) : Prop :=
  ∃ A cap, e = .returned (.agg #[.int .i64 r, .int .i64 c, .slice A n cap]) ∧ MS w0 p (⟨A, l, cap⟩ :: R) X w'
def BytR (w0 : World) (p : Option Nat) (R : List Rw) (X : List (Nat × Array Value)) (n : Nat) (l : List UInt8) (e : Ending) (w' : World) : Prop :=
  ∃ A cap, e = .returned (.tuple #[.slice A n cap, .int .i64 0]) ∧ MS w0 p (⟨A, l, cap⟩ :: R) X w'
def SayM (w0 : World) (p : Option Nat) (R : List Rw) (X : List (Nat × Array Value)) (v : Value) (e : Ending) (w' : World) : Prop := e = .returned v ∧ MS w0 p R X w'
section
variable {w0 w w' : World} {p : Option Nat} {R : List Rw} {X : List (Nat × Array Value)}
theorem MS.start (w : World) : MS w none [] [] w := ⟨Below.refl _ _, fun _ h => (by cases h), fun _ h => (List.not_mem_nil h).elim, fun _ h => (List.not_mem_nil h).elim⟩
theorem MS.keep (h : MS w0 p R X w) (hb : Below w.heap.size w w') : MS w0 p R X w' :=
  ⟨h.below.trans (hb.mono h.below.size), fun q e => ⟨(h.fld q e).1, (h.fld q e).2.keep hb⟩, fun r hr => ⟨((h.row r hr).1.below hb).up hb.size, (h.row r hr).2⟩, fun x hx => ⟨(h.box x hx).1.imp fun _ k => k.keep hb, (h.box x hx).2⟩⟩
theorem MS.in_ {q : Nat} (h : MS w0 (some q) R X w) {r : Rw} (hr : r ∈ R) : In w q r.A r.l := ⟨(h.row r hr).1, (h.row r hr).2.1 q rfl⟩
theorem MS.fr {q : Nat} (h : MS w0 (some q) R X w) (hF : Fld w' q) (hf : Fr (fun k => k = q) w w') : MS w0 (some q) R X w' :=
  ⟨h.below.trans (hf.below h.below.size fun k hk => by rw [hk]; exact (h.fld q rfl).1), fun q' e => (by injection e with e; subst e; exact ⟨(h.fld q rfl).1, hF⟩),
   fun r hr => ⟨((h.in_ hr).field hf).1, (h.row r hr).2⟩, fun x hx => ⟨(h.box x hx).1.imp fun _ k => k.fr hf ((h.box x hx).2 q rfl), (h.box x hx).2⟩⟩
theorem MS.arg (h : MS w0 none R X w) {A : Option Addr} {l : List UInt8} {c : Nat} (hb : Bytes w0 w0.heap.size A l) (hc : l.length ≤ c) : MS w0 none (⟨A, l, c⟩ :: R) X w :=
  ⟨h.below, h.fld, fun r hr => by
    rcases List.mem_cons.1 hr with rfl | hr
    · exact ⟨(hb.below h.below).up h.below.size, fun _ e => (by cases e), hc⟩
    · exact h.row r hr, h.box⟩
/-- A new row. -/
theorem MS.new (h : MS w0 p R X w) {w1 : World} {A : Option Addr} {l : List UInt8} {c : Nat} (hn : Nw w1.heap.size w A l) (hq : ∀ q, p = some q → q < w1.heap.size) (hc : l.length ≤ c) : MS w0 p (⟨A, l, c⟩ :: R) X w :=
  ⟨h.below, h.fld, fun r hr => by
    rcases List.mem_cons.1 hr with rfl | hr
    · exact ⟨hn.1, fun q e b o e2 hl => (by have := hn.2 b o e2 hl; have := hq q e; omega), hc⟩
    · exact h.row r hr, h.box⟩
theorem MS.lt (h : MS w0 p R X w) : ∀ q, p = some q → q < w.heap.size := fun q e => (h.fld q e).2.lt
theorem MS.nilR (h : MS w0 p R X w) : MS w0 p (⟨none, [], 0⟩ :: R) X w := h.new (w1 := w) ⟨Bytes.nil, fun _ _ e => by cases e⟩ h.lt (Nat.le_refl _)
/-- A box more. -/
theorem MS.putT (h : MS w0 p R X w) (cs : Array Value) (T : TypeId) : MS w0 p R ((w.heap.size, cs) :: X) (w.alloc (.cells cs T)) := by
  have k := h.keep (nextA (Mem.start w) (.cells cs T))
  exact ⟨k.below, k.fld, k.row, fun x hx => by
    rcases List.mem_cons.1 hx with rfl | hx
    · exact ⟨⟨T, Blk.new w _ _⟩, fun q e => by have := h.lt q e; dsimp only; omega⟩
    · exact k.box x hx⟩
theorem MS.put (h : MS w0 p R X w) (cs : Array Value) : MS w0 p R ((w.heap.size, cs) :: X) (w.alloc (.cells cs 27)) := h.putT cs _
theorem MS.lit (h : MS w0 p R X w) (cs : Array Value) (l : List UInt8) (hm : cs.size ≤ maxLen) (e : cs.toList = l.map u8v) (c : Nat) (hc : l.length ≤ c) : MS w0 p (⟨some ⟨w.heap.size, 0, none⟩, l, c⟩ :: R) X (w.alloc (.cells cs 5)) := by
  have ho := own_made w cs 5 hm (base := w.heap.size) (Nat.le_refl _)
  rw [e] at ho
  exact (h.keep (nextA (Mem.start w) _)).new (w1 := w) (Nw.of_own ho) h.lt hc
theorem MS.cells (h : MS w0 p R X w) {g : Nat} {c0 c1 c2 : Value} (hx : (g, #[c0, c1, c2]) ∈ X) : w.cell? ⟨g, 0, none⟩ = some c0 ∧ w.cell? ⟨g, 1, none⟩ = some c1 ∧ w.cell? ⟨g, 2, none⟩ = some c2 := by
  obtain ⟨T, hb⟩ := (h.box _ hx).1
  exact (cells3 hb).1
theorem MS.blk (h : MS w0 p R X w) {g : Nat} {c0 c1 c2 : Value} (hx : (g, #[c0, c1, c2]) ∈ X) : (w.cell? ⟨g, 0, none⟩ = some c0 ∧ w.cell? ⟨g, 1, none⟩ = some c1 ∧ w.cell? ⟨g, 2, none⟩ = some c2) ∧ w.frozen? ⟨g, 0, none⟩ = false ∧ w.frozen? ⟨g, 1, none⟩ = false ∧ w.frozen? ⟨g, 2, none⟩ = false := by
  obtain ⟨T, hb⟩ := (h.box _ hx).1
  exact cells3 hb
theorem MS.out (h : MS w0 none R X w) (hb : Below w.heap.size w w') (q : Nat) (hF : Fld w' q) (hq : w.heap.size ≤ q) : MS w0 (some q) R X w' := by
  have k := h.keep hb
  refine ⟨k.below, fun q' e => (by injection e with e; subst e; exact ⟨Nat.le_trans h.below.size hq, hF⟩), fun r hr => ⟨(k.row r hr).1, fun q' e b o e2 hl => ?_, (k.row r hr).2.2⟩, fun x hx => ⟨(k.box x hx).1, fun q' e => ?_⟩⟩
  · injection e with e
    obtain ⟨b', o', e', hlt, _⟩ := (h.row r hr).1 (by simpa using hl)
    rw [e2] at e'; injection e' with e'; injection e' with e' _
    omega
  · injection e with e
    obtain ⟨T, hb⟩ := (h.box x hx).1
    have := hb.lt
    omega
/-- A box written. -/
theorem MS.set {g : Nat} {i0 i1 : Int} {B : Option Addr} {nn cc : Nat} (h : MS w0 p R ((g, #[.int .i64 i0, .int .i64 i1, .slice B nn cc]) :: X) w) (hg : w0.heap.size ≤ g) (hne : ∀ x ∈ X, x.1 ≠ g) (v0 v1 v2 : Value) :
    MS w0 p R ((g, #[v0, v1, v2]) :: X) (((w.setCell ⟨g, 0, none⟩ v0).setCell ⟨g, 1, none⟩ v1).setCell ⟨g, 2, none⟩ v2) := by
  obtain ⟨T, hb⟩ := (h.box _ (.head _)).1
  have hq := (h.box _ (.head _)).2
  obtain ⟨hb', hf⟩ := set3 hb v0 v1 v2
  refine ⟨h.below.trans (hf.below h.below.size fun k hk => by rw [hk]; exact hg), fun q e => ⟨(h.fld q e).1, (h.fld q e).2.fr hf (fun e2 => hq q e e2.symm)⟩, fun r hr => ⟨fun hl => ?_, (h.row r hr).2⟩, fun x hx => ?_⟩
  · obtain ⟨b, off, e, hlt, hc⟩ := (h.row r hr).1 hl
    refine ⟨b, off, e, Nat.lt_of_lt_of_le hlt hf.size, fun j v hv => (World.cell?_of_block (hf.block b hlt fun e2 => ?_)).trans (hc j v hv)⟩
    dsimp only at e2
    subst e2
    have hl' : 0 < r.l.length := by simpa using hl
    have h1 := hc 0 (u8v r.l[0]) (by rw [List.getElem?_map, List.getElem?_eq_getElem hl']; rfl)
    obtain ⟨⟨k0, k1, k2⟩, _⟩ := cells3 hb
    rw [Nat.add_zero] at h1
    match off with
    | 0 => rw [k0] at h1; injection h1 with h1; injection h1 with h1 _; cases h1
    | 1 => rw [k1] at h1; injection h1 with h1; injection h1 with h1 _; cases h1
    | 2 => rw [k2] at h1; injection h1 with h1; cases h1
    | o + 3 => rw [hb.cell (o + 3), Array.getElem?_eq_none (by simp)] at h1; cases h1
  · rcases List.mem_cons.1 hx with rfl | hx
    · exact ⟨⟨T, hb'⟩, hq⟩
    · exact ⟨(h.box x (.tail _ hx)).1.imp fun _ k => k.fr hf (hne x hx), (h.box x (.tail _ hx)).2⟩
theorem MS.far (h : MS w0 p R X w) : ∀ x ∈ X, x.1 ≠ w.heap.size := fun x hx => by obtain ⟨T, hb⟩ := (h.box x hx).1; have := hb.lt; omega
theorem newMx : NewRun Try.prog 27 #[.int .i64 0, .int .i64 0, .slice none 0 0] := fun w => by kernel_rfl
theorem newR (h : MS w0 none R X w) : Calls Try.prog 12 #[] w fun e w' => e = .returned (.pointer (some ⟨w.heap.size, 0, none⟩)) ∧ MS w0 (some w.heap.size) R X w' :=
  (newf_any w).mono fun e w' ⟨he, hF, hb, hs⟩ => ⟨he, h.out hb _ (.inl hF) (Nat.le_refl _)⟩
theorem right_dim {r c n : Nat} (h : r ≤ 100 ∧ c ≤ 100) (hn : n = r * c) : rightB r c n = true := by
  unfold rightB
  rw [decide_eq_true_iff]
  exact ⟨by omega, by omega, by omega, by omega, by rw [hn]; simp⟩
variable (h : MS w0 p R X w)
include h
section
variable {A B : Option Addr} {a b : List UInt8} {ca cb n m r c d : Nat} {ma mb : M} {R1 C1 R2 C2 : Int}
theorem smallR (t : Int) (ht : 0 ≤ t ∧ t ≤ 100) {v : Bool} (hv : smallB t R1 C1 n = v) : Calls Try.prog 16 #[.agg #[.int .i64 R1, .int .i64 C1, .slice A n ca], .int .i64 t] w (SayM w0 p R X (.bool v)) := by
  subst hv
  exact (small_any w t R1 C1 ht A n ca).mono fun e w' ⟨he, hb⟩ => ⟨he, h.keep hb⟩
theorem rightR {v : Bool} (hv : rightB R1 C1 n = v) : Calls Try.prog 26 #[.agg #[.int .i64 R1, .int .i64 C1, .slice A n ca]] w (SayM w0 p R X (.bool v)) := by
  subst hv
  exact (right_any w R1 C1 A n ca).mono fun e w' ⟨he, hb⟩ => ⟨he, h.keep hb⟩
theorem sameR (ha : ⟨A, a, ca⟩ ∈ R) (hn : a.length = n) (hb : ⟨B, b, cb⟩ ∈ R) (hm : b.length = m) {v : Bool} (hv : sameB R1 C1 R2 C2 a b = v) :
    Calls Try.prog 24 #[.agg #[.int .i64 R1, .int .i64 C1, .slice A n ca], .agg #[.int .i64 R2, .int .i64 C2, .slice B m cb]] w (SayM w0 p R X (.bool v)) := by
  subst hv
  exact (same_any w R1 C1 R2 C2 A B a b n ca m cb _ _ hn hm (Nat.le_refl _) (Nat.le_refl _) (h.row _ ha).1 (h.row _ hb).1).mono fun e w' ⟨he, hb⟩ => ⟨he, h.keep hb⟩
theorem sameBytesR (ha : ⟨A, a, ca⟩ ∈ R) (hn : a.length = n) (hb : ⟨B, b, cb⟩ ∈ R) (hm : b.length = m) {v : Bool} (hv : decide (a = b) = v) :
    Calls Try.prog 41 #[.slice A n ca, .slice B m cb] w fun e w' => e = .returned (.bool v) ∧ w = w' := by
  subst hv
  exact sameBytes_any w A B a b n ca m cb _ _ hn hm (h.row _ ha).1 (h.row _ hb).1
theorem turnR (ha : ⟨A, a, ca⟩ ∈ R) (hn : n = r * c) (hR : R1 = r ∧ C1 = c) (hd : r ≤ 100 ∧ c ≤ 100) (hA : a = flat r c ma) (Ro Co : Int) (no : Nat) (ho : Ro = c ∧ Co = r ∧ no = c * r) {l : List UInt8} (hl : flat c r (fun x y => ma y x) = l) :
    Calls Try.prog 34 #[.agg #[.int .i64 R1, .int .i64 C1, .slice A n ca]] w (MatR w0 p R X Ro Co no l) := by
  obtain ⟨rfl, rfl⟩ := hR; obtain ⟨rfl, rfl, rfl⟩ := ho
  subst hA; subst hl
  have hq : r * c ≤ 10000 := Nat.mul_le_mul hd.1 hd.2
  refine (turned_ok w r c A n ca ma hn (right_dim hd hn) (by have := (h.row _ ha).2.2; rw [hn]; simpa [flat_len] using this) (by omega) (h.row _ ha).1).mono fun e w' ⟨A', cap, he, hle, hnw, hb⟩ => ⟨A', cap, he, (h.keep hb).new hnw h.lt (by rw [flat_len]; exact hle)⟩
theorem turn0R (hv : rightB R1 C1 n = false) : Calls Try.prog 34 #[.agg #[.int .i64 R1, .int .i64 C1, .slice A n ca]] w (SayM w0 p R X (.tuple #[.agg #[.int .i64 0, .int .i64 0, .slice none 0 0], .int .i64 50])) :=
  (turned_bad w R1 C1 A n ca hv).mono fun e w' ⟨he, hb⟩ => ⟨he, h.keep hb⟩
theorem oneR (hR : R1 = r) (hd : r ≤ 100) (no : Nat) (ho : no = r * r) {l : List UInt8} (hl : flat r r idm = l) : Calls Try.prog 27 #[.int .i64 R1] w (MatO w0 p R X R1 R1 no l) := by
  subst hR; subst ho; subst hl
  exact (one_in w r (by omega)).mono fun e w' ⟨A', cap, he, hle, hnw, hb⟩ => ⟨A', cap, he, (h.keep hb).new hnw h.lt (by rw [flat_len]; exact hle)⟩
theorem packdR (ha : ⟨A, a, ca⟩ ∈ R) (hn : n = r * r) (hR : R1 = r ∧ C1 = r) (hd : r ≤ 100) (hA : a = flat r r ma) (hs : flat r r (fun x y => ma y x) = flat r r ma) (no : Nat) (ho : no = offS r r) {l : List UInt8} (hl : packS r ma r = l) :
    Calls Try.prog 39 #[.agg #[.int .i64 R1, .int .i64 C1, .slice A n ca]] w (BytR w0 p R X no l) := by
  obtain ⟨rfl, rfl⟩ := hR
  subst hA; subst hl; subst ho
  have hq : r * r ≤ 10000 := Nat.mul_le_mul hd hd
  refine (packed_ok w r A n ca ma hn (right_dim ⟨hd, hd⟩ hn) (by have := (h.row _ ha).2.2; rw [hn]; simpa [flat_len] using this) (by omega) (h.row _ ha).1 hs).mono fun e w' ⟨A', cap, he, hle, hnw, hb⟩ => ⟨A', cap, he, (h.keep hb).new hnw h.lt (by rw [packS_len]; exact hle)⟩
theorem symR (ha : ⟨A, b, ca⟩ ∈ R) (hcm : ca ≤ maxLen) (hn : b.length = n) (hR : R1 = r) (hd : r ≤ 100) (h2 : 2 * n = r * (r + 1)) (no : Nat) (ho : no = r * r) {l : List UInt8} (hl : flat r r (symM r b) = l) :
    Calls Try.prog 30 #[.int .i64 R1, .slice A n ca] w (MatR w0 p R X R1 R1 no l) := by
  subst hR; subst ho; subst hl
  exact (sym_ok w r hd A b n ca hn h2 (by have := (h.row _ ha).2.2; dsimp only at this; omega) hcm (h.row _ ha).1).mono fun e w' ⟨A', cap, he, hle, hnw, hb⟩ => ⟨A', cap, he, (h.keep hb).new hnw h.lt (by rw [flat_len]; exact hle)⟩
theorem sym0R (hR : 0 ≤ R1 ∧ R1 ≤ 100) (h2 : (n : Int) ≠ R1 * (R1 + 1) / 2) : Calls Try.prog 30 #[.int .i64 R1, .slice A n ca] w (SayM w0 p R X (.tuple #[.agg #[.int .i64 0, .int .i64 0, .slice none 0 0], .int .i64 50])) :=
  (sym_bad w R1 A n ca (by omega) (.inr (.inr ⟨by omega, by omega, h2⟩))).mono fun e w' ⟨he, hb⟩ => ⟨he, h.keep hb⟩
end
end
section
variable {w0 w w' : World} {q : Nat} {R : List Rw} {X : List (Nat × Array Value)}
variable (h : MS w0 (some q) R X w)
include h
variable {A B : Option Addr} {a b : List UInt8} {ca cb n m r c d : Nat} {ma mb : M} {R1 C1 R2 C2 : Int}
theorem mulR (ha : ⟨A, a, ca⟩ ∈ R) (hb : ⟨B, b, cb⟩ ∈ R) (hn : n = r * c) (hm : m = c * d) (hR : R1 = r ∧ C1 = c ∧ R2 = c ∧ C2 = d) (hd : r ≤ 100 ∧ c ≤ 100 ∧ d ≤ 100) (hA : a = flat r c ma) (hB : b = flat c d mb)
    (Ro Co : Int) (no : Nat) (ho : Ro = r ∧ Co = d ∧ no = r * d) {l : List UInt8} (hl : flat r d (mulM c ma mb) = l) :
    Calls Try.prog 18 #[fptr (some q), .agg #[.int .i64 R1, .int .i64 C1, .slice A n ca], .agg #[.int .i64 R2, .int .i64 C2, .slice B m cb]] w (MatR w0 (some q) R X Ro Co no l) := by
  obtain ⟨rfl, rfl, rfl, rfl⟩ := hR; obtain ⟨rfl, rfl, rfl⟩ := ho
  subst hA; subst hB; subst hl
  have k1 := (h.row _ ha).2.2; have k2 := (h.row _ hb).2.2
  dsimp only at k1 k2
  rw [flat_len] at k1 k2
  refine (mul_ok w q (h.fld q rfl).2 r c d A B n ca m cb ma mb (right_dim ⟨hd.1, hd.2.1⟩ hn) (right_dim ⟨hd.2.1, hd.2.2⟩ hm) hd ⟨by omega, by omega⟩ (h.in_ ha) (h.in_ hb)).mono fun e w' ⟨A', cap, he, hle, hnw, hF, hf⟩ => ⟨A', cap, he, (h.fr hF hf).new hnw h.lt (by rw [flat_len]; exact hle)⟩
theorem mul0R (hv : mulB R1 C1 n R2 C2 m = false) : Calls Try.prog 18 #[fptr (some q), .agg #[.int .i64 R1, .int .i64 C1, .slice A n ca], .agg #[.int .i64 R2, .int .i64 C2, .slice B m cb]] w (SayM w0 (some q) R X (.tuple #[.agg #[.int .i64 0, .int .i64 0, .slice none 0 0], .int .i64 50])) :=
  (mul_bad w q R1 C1 R2 C2 A B n ca m cb hv).mono fun e w' ⟨he, hb⟩ => ⟨he, h.keep hb⟩
theorem rankR (ha : ⟨A, a, ca⟩ ∈ R) (hn : n = r * c) (hR : R1 = r ∧ C1 = c) (hd : r ≤ 100 ∧ c ≤ 100) (hA : a = flat r c ma) (Ko : Int) (ho : Ko = rankM r c ma) :
    Calls Try.prog 14 #[fptr (some q), .agg #[.int .i64 R1, .int .i64 C1, .slice A n ca]] w (SayM w0 (some q) R X (.tuple #[.int .i64 Ko, .int .i64 0])) := by
  obtain ⟨rfl, rfl⟩ := hR
  subst hA; subst ho
  exact (rank_ok w q (h.fld q rfl).2 r c A n ca ma (right_dim hd hn) hd (h.in_ ha)).mono fun e w' ⟨he, hF, hf⟩ => ⟨he, h.fr hF hf⟩
theorem solveR (ha : ⟨A, a, ca⟩ ∈ R) (hb : ⟨B, b, cb⟩ ∈ R) (hn : n = r * c) (hm : m = r * d) (hR : R1 = r ∧ C1 = c ∧ R2 = r ∧ C2 = d) (hd : r ≤ 100 ∧ c ≤ 100 ∧ d ≤ 100) (hA : a = flat r c ma) (hB : b = flat r d mb) (hs : solves r c d ma mb = true)
    (Ro Co : Int) (no : Nat) (ho : Ro = c ∧ Co = d ∧ no = c * d) {l : List UInt8} (hl : flat c d (redTo r ma mb c).B = l) :
    Calls Try.prog 21 #[fptr (some q), .agg #[.int .i64 R1, .int .i64 C1, .slice A n ca], .agg #[.int .i64 R2, .int .i64 C2, .slice B m cb]] w (MatR w0 (some q) R X Ro Co no l) := by
  obtain ⟨rfl, rfl, rfl, rfl⟩ := hR; obtain ⟨rfl, rfl, rfl⟩ := ho
  subst hA; subst hB; subst hl
  refine (solve_ok w q (h.fld q rfl).2 r c d A B n ca m cb ma mb (right_dim ⟨hd.1, hd.2.1⟩ hn) (right_dim ⟨hd.1, hd.2.2⟩ hm) hd (h.in_ ha) (h.in_ hb) hs).mono fun e w' ⟨A', cap, he, hle, hnw, hF, hf⟩ => ⟨A', cap, he, (h.fr hF hf).new hnw h.lt (by rw [flat_len]; exact hle)⟩
theorem solve1R (ha : ⟨A, a, ca⟩ ∈ R) (hb : ⟨B, b, cb⟩ ∈ R) (hn : n = r * c) (hm : m = r * d) (hR : R1 = r ∧ C1 = c ∧ R2 = r ∧ C2 = d) (hd : r ≤ 100 ∧ c ≤ 100 ∧ d ≤ 100) (hA : a = flat r c ma) (hB : b = flat r d mb) (hs : solves r c d ma mb = false) :
    Calls Try.prog 21 #[fptr (some q), .agg #[.int .i64 R1, .int .i64 C1, .slice A n ca], .agg #[.int .i64 R2, .int .i64 C2, .slice B m cb]] w (SayM w0 (some q) R X (.tuple #[.agg #[.int .i64 0, .int .i64 0, .slice none 0 0], .int .i64 51])) := by
  obtain ⟨rfl, rfl, rfl, rfl⟩ := hR
  subst hA; subst hB
  exact (solve_no w q (h.fld q rfl).2 r c d A B n ca m cb ma mb (right_dim ⟨hd.1, hd.2.1⟩ hn) (right_dim ⟨hd.1, hd.2.2⟩ hm) hd (h.in_ ha) (h.in_ hb) hs).mono fun e w' ⟨he, hF, hf⟩ => ⟨he, h.fr hF hf⟩
theorem solve0R (F : Value) (hv : solB R1 C1 n R2 C2 m = false) : Calls Try.prog 21 #[F, .agg #[.int .i64 R1, .int .i64 C1, .slice A n ca], .agg #[.int .i64 R2, .int .i64 C2, .slice B m cb]] w (SayM w0 (some q) R X (.tuple #[.agg #[.int .i64 0, .int .i64 0, .slice none 0 0], .int .i64 50])) :=
  (solve_bad w F R1 C1 R2 C2 A B n ca m cb hv).mono fun e w' ⟨he, hb⟩ => ⟨he, h.keep hb⟩
theorem invR (ha : ⟨A, a, ca⟩ ∈ R) (hn : n = r * r) (hR : R1 = r ∧ C1 = r) (hd : r ≤ 100) (hA : a = flat r r ma) (hs : solves r r r ma idm = true) (Ro : Int) (no : Nat) (ho : Ro = r ∧ no = r * r) {l : List UInt8} (hl : flat r r (redTo r ma idm r).B = l) :
    Calls Try.prog 15 #[fptr (some q), .agg #[.int .i64 R1, .int .i64 C1, .slice A n ca]] w (MatR w0 (some q) R X Ro Ro no l) := by
  obtain ⟨rfl, rfl⟩ := hR; obtain ⟨rfl, rfl⟩ := ho
  subst hA; subst hl
  refine (inv_ok w q (h.fld q rfl).2 r A n ca ma (right_dim ⟨hd, hd⟩ hn) hd (h.in_ ha) hs).mono fun e w' ⟨A', cap, he, hle, hnw, hF, hf⟩ => ⟨A', cap, he, (h.fr hF hf).new hnw h.lt (by rw [flat_len]; exact hle)⟩
theorem inv1R (ha : ⟨A, a, ca⟩ ∈ R) (hn : n = r * r) (hR : R1 = r ∧ C1 = r) (hd : r ≤ 100) (hA : a = flat r r ma) (hs : solves r r r ma idm = false) :
    Calls Try.prog 15 #[fptr (some q), .agg #[.int .i64 R1, .int .i64 C1, .slice A n ca]] w (SayM w0 (some q) R X (.tuple #[.agg #[.int .i64 0, .int .i64 0, .slice none 0 0], .int .i64 51])) := by
  obtain ⟨rfl, rfl⟩ := hR
  subst hA
  exact (inv_no w q (h.fld q rfl).2 r A n ca ma (right_dim ⟨hd, hd⟩ hn) hd (h.in_ ha) hs).mono fun e w' ⟨he, hF, hf⟩ => ⟨he, h.fr hF hf⟩
theorem inv0R (F : Value) (hv : (rightB R1 C1 n && R1 == C1) = false) : Calls Try.prog 15 #[F, .agg #[.int .i64 R1, .int .i64 C1, .slice A n ca]] w (SayM w0 (some q) R X (.tuple #[.agg #[.int .i64 0, .int .i64 0, .slice none 0 0], .int .i64 50])) :=
  (inv_bad w F R1 C1 A n ca hv).mono fun e w' ⟨he, hb⟩ => ⟨he, h.keep hb⟩
theorem powR (ha : ⟨A, a, ca⟩ ∈ R) (hn : a.length = n) (hR : C1 = c) (hd : n ≤ 1000 ∧ c ≤ 1000) (Ro : Int) (no : Nat) (ho : Ro = n ∧ no = n * c) {l : List UInt8} (hl : flat n c (powM a) = l) :
    Calls Try.prog 13 #[fptr (some q), .slice A n ca, .int .i64 C1] w (MatO w0 (some q) R X Ro C1 no l) := by
  obtain ⟨rfl, rfl⟩ := ho
  subst hR; subst hl
  have k : Calls Try.prog 13 #[fptr (some q), .slice A n ca, .int .i64 (c : Int)] w (NewMF w q n c (powM a)) := by
    rcases Nat.eq_zero_or_pos n with h0 | h0
    · exact pow_ok2 w q (h.fld q rfl).2 A a n ca hn c (h.in_ ha) hd h0
    · exact pow_ok1 w q (h.fld q rfl).2 A a n ca hn c (h.in_ ha) hd h0
  exact k.mono fun e w' ⟨A', cap, he, hle, hnw, hF, hf⟩ => ⟨A', cap, he, (h.fr hF hf).new hnw h.lt (by rw [flat_len]; exact hle)⟩
end
theorem Mx_field2 (W : World) (a b : Int) (A : Option Addr) (n c : Nat) : (Instr.field 27 (.agg #[.int .i64 a, .int .i64 b, .slice A n c]) 2).run Try.prog W = .ok (.slice A n c) W := by kernel_rfl
theorem Mx_build1 (W : World) (a : Int) : (Instr.buildSlice 22 1 #[(0, .int .u8 a)]).run Try.prog W = .ok (.slice (some ⟨W.heap.size, 0, none⟩) 1 1) (W.alloc (.cells #[.int .u8 a] 5)) := by kernel_rfl
theorem Mx_build2 (W : World) (a b : Int) : (Instr.buildSlice 22 2 #[(0, .int .u8 a), (1, .int .u8 b)]).run Try.prog W = .ok (.slice (some ⟨W.heap.size, 0, none⟩) 2 2) (W.alloc (.cells #[.int .u8 a, .int .u8 b] 5)) := by kernel_rfl
theorem Mx_build3 (W : World) (a b c : Int) : (Instr.buildSlice 22 3 #[(0, .int .u8 a), (1, .int .u8 b), (2, .int .u8 c)]).run Try.prog W = .ok (.slice (some ⟨W.heap.size, 0, none⟩) 3 3) (W.alloc (.cells #[.int .u8 a, .int .u8 b, .int .u8 c] 5)) := by kernel_rfl
theorem Mx_build4 (W : World) (a b c d : Int) : (Instr.buildSlice 22 4 #[(0, .int .u8 a), (1, .int .u8 b), (2, .int .u8 c), (3, .int .u8 d)]).run Try.prog W = .ok (.slice (some ⟨W.heap.size, 0, none⟩) 4 4) (W.alloc (.cells #[.int .u8 a, .int .u8 b, .int .u8 c, .int .u8 d] 5)) := by kernel_rfl
theorem Mx_build6 (W : World) (a b c d e f : Int) : (Instr.buildSlice 22 6 #[(0, .int .u8 a), (1, .int .u8 b), (2, .int .u8 c), (3, .int .u8 d), (4, .int .u8 e), (5, .int .u8 f)]).run Try.prog W = .ok (.slice (some ⟨W.heap.size, 0, none⟩) 6 6) (W.alloc (.cells #[.int .u8 a, .int .u8 b, .int .u8 c, .int .u8 d, .int .u8 e, .int .u8 f] 5)) := by kernel_rfl
end Go.Proofs.Ythdapoipfnnaeaa.MxW
/- What the calls of chapter 05 answer, plain: solutions, inverses, symmetric matrices. -/
namespace Go.Proofs.Ythdapoipfnnaeaa.MxW
open Gf FdW Mx Mem Rng
open Go.RowKit
set_option linter.unusedVariables false
set_option linter.unusedSectionVars false

theorem nz_false {l : List UInt8} (h : anyNz l = false) : ∀ x ∈ l, x = 0 := fun x hx => by
  unfold anyNz at h
  have := (List.any_eq_false.1 h) x hx
  unfold nz at this
  simpa using this
theorem drop_zero {r c d : Nat} {B : M} : anyNz ((flat r d B).drop (c * d)) = false ↔ ∀ i, c ≤ i → i < r → ∀ k, k < d → B i k = 0 := by
  constructor
  · intro h i hi hir k hk
    have h1 := flat_get (m := B) hir hk
    have hle : c * d ≤ i * d := Nat.mul_le_mul_right d hi
    refine nz_false h _ (List.mem_of_getElem? (i := i * d + k - c * d) ?_)
    rw [List.getElem?_drop, show c * d + (i * d + k - c * d) = i * d + k by omega]
    exact h1
  · intro h
    unfold anyNz
    refine List.any_eq_false.2 fun x hx => ?_
    obtain ⟨j, hj⟩ := List.mem_iff_getElem?.1 hx
    rw [List.getElem?_drop] at hj
    have hl : c * d + j < r * d := by
      have := (List.getElem?_eq_some_iff.1 hj).1
      rwa [flat_len] at this
    obtain ⟨i, k, hi, hk, e⟩ := idx_of hl
    rw [e, flat_get hi hk] at hj
    injection hj with hj
    rw [← hj, h i (Nat.le_of_not_lt fun hlt => by have := idx_lt hlt hk; omega) hi k hk]
    decide
section
variable {r c d : Nat} {a b x : M}
theorem rank_eq (r c : Nat) (a b : M) : (redTo r a b c).at_ = rankM r c a := (Mx.redTo_A a b (fun _ _ => 0) r c).2
theorem rank_min (r c : Nat) (a : M) : rankM r c a ≤ r ∧ rankM r c a ≤ c := redTo_at c
theorem solve_rank (h : solves r c d a b = true) : rankM r c a = c := by
  unfold solves at h
  rw [Bool.and_eq_true, decide_eq_true_iff, rank_eq] at h
  exact h.1
theorem solve_less (h : rankM r c a ≠ c) : solves r c d a b = false := by
  cases hs : solves r c d a b with
  | false => rfl
  | true => exact absurd (solve_rank hs) h
theorem solve_is (h : solves r c d a b = true) : flat r d (mulM c a (redTo r a b c).B) = flat r d b := by
  have hr := solve_rank h
  unfold solves at h
  rw [Bool.and_eq_true, Bool.not_eq_true', drop_zero] at h
  exact flat_congr fun i hi k hk => sol_is (by rw [rank_eq]; exact hr) (fun i h1 h2 => h.2 i h1 h2 k hk) i hi
theorem solve_full (hr : rankM r c a = c) : solves r c d a (mulM c a x) = true ∧ flat c d (redTo r a (mulM c a x) c).B = flat c d x := by
  have hk := fun k => sol_unique (A := a) (B := mulM c a x) (r := r) (c := c) (x := x) (k := k) (by rw [rank_eq]; exact hr) fun i _ => rfl
  refine ⟨?_, flat_congr fun i hi k _ => (hk k).1 i hi⟩
  unfold solves
  rw [Bool.and_eq_true, decide_eq_true_iff, Bool.not_eq_true', drop_zero, rank_eq]
  exact ⟨hr, fun i h1 h2 k _ => (hk k).2 i h1 h2⟩
theorem solve_sq (hr : rankM r r a = r) : solves r r d a b = true := by
  unfold solves
  rw [Bool.and_eq_true, decide_eq_true_iff, Bool.not_eq_true', drop_zero, rank_eq]
  exact ⟨hr, fun i h1 h2 => by omega⟩
theorem inv_right (h : solves r r r a idm = true) : flat r r (mulM r a (redTo r a idm r).B) = flat r r idm := solve_is h
theorem inv_left (h : solves r r r a idm = true) : flat r r (mulM r (redTo r a idm r).B a) = flat r r idm := by
  have hr := solve_rank h
  have h1 := inv_right h
  generalize (redTo r a idm r).B = v at h1 ⊢
  refine flat_congr fun i hi k hk => ?_
  have h2 := sol_unique (A := a) (B := a) (r := r) (c := r) (x := mulM r v a) (k := k) (by rw [rank_eq]; exact hr) fun i hi => by
    rw [← mulM_assoc]
    rw [mulM_congr (a' := idm') (b' := a) (fun j hj => flat_inj h1 hi hj) fun j _ => rfl]
    exact id_mulM a hi k
  have h3 := sol_unique (A := a) (B := a) (r := r) (c := r) (x := idm') (k := k) (by rw [rank_eq]; exact hr) fun i hi => mulM_id a i hk
  rw [← h2.1 i hi, h3.1 i hi]; rfl
end
theorem symM_turn (n : Nat) (b : List UInt8) (x y : Nat) : symM n b y x = symM n b x y := by
  unfold symM
  by_cases h : x ≤ y
  · by_cases h2 : y ≤ x
    · obtain rfl : x = y := by omega
      rfl
    · rw [if_neg h2, if_pos h]
  · rw [if_pos (by omega), if_neg h]
theorem packS_sym {n : Nat} {b : List UInt8} (hb : b.length = offS n n) : ∀ k, k ≤ n → packS n (symM n b) k = b.take (offS n k)
  | 0 => fun _ => rfl
  | k + 1 => by
    intro hk
    have h1 : offS n k + (n - k) ≤ offS n n := by have := offS_mono (n := n) (show k + 1 ≤ n from hk); exact this
    rw [packS_succ, packS_sym hb k (by omega), show offS n (k + 1) = offS n k + (n - k) from rfl, List.take_add]
    congr 1
    apply List.ext_getElem?
    intro j
    by_cases hj : j < n - k
    · rw [List.getElem?_take, if_pos hj, List.getElem?_drop]
      unfold packR
      rw [List.getElem?_map, List.getElem?_range hj, Option.map_some]
      unfold symM
      rw [if_pos (by omega), show k + j - k = j by omega, List.getD_eq_getElem?_getD, List.getElem?_eq_getElem (by omega)]; rfl
    · rw [List.getElem?_take, if_neg hj, List.getElem?_eq_none (by rw [packR_len]; omega)]
theorem packS_back {n : Nat} {b : List UInt8} (hb : b.length = offS n n) : packS n (symM n b) n = b := by
  rw [packS_sym hb n (Nat.le_refl _), ← hb, List.take_length]
theorem gram_sym (c r : Nat) (m : M) : flat r r (fun x y => mulM c m (fun x y => m y x) y x) = flat r r (mulM c m fun x y => m y x) :=
  flat_congr fun i _ k _ => by unfold mulM; exact xsum_congr fun j _ => mul_comm _ _
theorem mul_nat {R C R' C' : Int} {n n' : Nat} (h : mulB R C n R' C' n' = true) : ∃ r s t : Nat, R = r ∧ C = s ∧ R' = s ∧ C' = t ∧ n = r * s ∧ n' = s * t := by
  unfold mulB at h
  rw [Bool.and_eq_true, Bool.and_eq_true] at h
  obtain ⟨r, s, rfl, rfl, _, _, e1⟩ := right_nat h.1.1
  obtain ⟨s', t, rfl, rfl, _, _, e2⟩ := right_nat h.1.2
  have e3 : s = s' := by have := h.2; simp at this; omega
  subst e3
  exact ⟨r, s, t, rfl, rfl, rfl, rfl, e1, e2⟩
theorem sameB_self (R C : Int) (a : List UInt8) : sameB R C R C a a = true := by unfold sameB; exact decide_eq_true ⟨rfl, rfl, rfl⟩
end Go.Proofs.Ythdapoipfnnaeaa.MxW
/- The document's functions: boxes, a matrix being written; One. -/
namespace Go.Proofs.Ythdapoipfnnaeaa.MxW
open Go.RowKit Go.Shelf Mem Gf FdW Mx Rng
open PlW (In)
set_option linter.unusedVariables false
set_option linter.unusedSectionVars false
attribute [local go_sem] Oper.semAt_some wide_fn

/-- Boxes since w0, and a matrix that is being written in block g. -/
structure WS (w0 : World) (Y : List (Nat × TypeId × Array Value)) (g cap r c : Nat) (m : M) (w : World) : Prop where
  below : Below w0.heap.size w0 w
  box : ∀ y ∈ Y, Blk w y.1 y.2.1 y.2.2 ∧ y.2.1 ≠ 5 ∧ w0.heap.size ≤ y.1
  row : Wm w w0.heap.size g cap r c m
/-- Boxes alone. -/
structure BS (w0 : World) (Y : List (Nat × TypeId × Array Value)) (w : World) : Prop where
  below : Below w0.heap.size w0 w
  box : ∀ y ∈ Y, Blk w y.1 y.2.1 y.2.2 ∧ y.2.1 ≠ 5 ∧ w0.heap.size ≤ y.1
section
variable {w0 w w' : World} {Y : List (Nat × TypeId × Array Value)} {g cap r c : Nat} {m m' : M}
theorem BS.start (w : World) : BS w [] w := ⟨Below.refl _ _, fun _ h => (List.not_mem_nil h).elim⟩
theorem BS.keep (h : BS w0 Y w) (hb : Below w.heap.size w w') : BS w0 Y w' := ⟨next h.below hb, fun y hy => ⟨(h.box y hy).1.keep hb, (h.box y hy).2⟩⟩
theorem BS.put (h : BS w0 Y w) (cs : Array Value) (T : TypeId) (hT : T ≠ 5) : BS w0 ((w.heap.size, T, cs) :: Y) (w.alloc (.cells cs T)) := by
  have k := h.keep (nextA (Mem.start w) (.cells cs T))
  exact ⟨k.below, fun y hy => by
    rcases List.mem_cons.1 hy with rfl | hy
    · exact ⟨Blk.new w _ _, hT, h.below.size⟩
    · exact k.box y hy⟩
theorem BS.cells (h : BS w0 Y w) {b : Nat} {T : TypeId} {c0 c1 c2 : Value} (hy : (b, T, #[c0, c1, c2]) ∈ Y) : (w.cell? ⟨b, 0, none⟩ = some c0 ∧ w.cell? ⟨b, 1, none⟩ = some c1 ∧ w.cell? ⟨b, 2, none⟩ = some c2) ∧ w.frozen? ⟨b, 0, none⟩ = false ∧ w.frozen? ⟨b, 1, none⟩ = false ∧ w.frozen? ⟨b, 2, none⟩ = false := cells3 (h.box _ hy).1
theorem BS.none_ (h : BS w0 Y w) (ho : Wm w' w0.heap.size g cap r c m) (hb : Below w.heap.size w w') : WS w0 Y g cap r c m w' := ⟨(h.keep hb).below, (h.keep hb).box, ho⟩
theorem WS.bs (h : WS w0 Y g cap r c m w) : BS w0 Y w := ⟨h.below, h.box⟩
theorem WS.keep (h : WS w0 Y g cap r c m w) (hb : Below w.heap.size w w') : WS w0 Y g cap r c m w' := ⟨(h.bs.keep hb).below, (h.bs.keep hb).box, h.row.keep hb⟩
theorem WS.put (h : WS w0 Y g cap r c m w) (cs : Array Value) (T : TypeId) (hT : T ≠ 5) : WS w0 ((w.heap.size, T, cs) :: Y) g cap r c m (w.alloc (.cells cs T)) :=
  ⟨(h.bs.put cs T hT).below, (h.bs.put cs T hT).box, h.row.keep (nextA (Mem.start w) _)⟩
theorem WS.cells (h : WS w0 Y g cap r c m w) {b : Nat} {T : TypeId} {c0 c1 c2 : Value} (hy : (b, T, #[c0, c1, c2]) ∈ Y) : (w.cell? ⟨b, 0, none⟩ = some c0 ∧ w.cell? ⟨b, 1, none⟩ = some c1 ∧ w.cell? ⟨b, 2, none⟩ = some c2) ∧ w.frozen? ⟨b, 0, none⟩ = false ∧ w.frozen? ⟨b, 1, none⟩ = false ∧ w.frozen? ⟨b, 2, none⟩ = false := h.bs.cells hy
theorem WS.set (h : WS w0 Y g cap r c m w) {i k : Nat} (hi : i < r) (hk : k < c) (x : UInt8) : WS w0 Y g cap r c (upd m i k x) (w.setCell ⟨g, i * c + k, none⟩ (.int .u8 (x.toNat : Int))) := by
  have hf := setF (p := g) w ⟨g, i * c + k, none⟩ rfl (.int .u8 (x.toNat : Int))
  refine ⟨h.below.trans (hf.below h.below.size fun k hk => by rw [hk]; exact h.row.form.1), fun y hy => ⟨(h.box y hy).1.fr hf fun e => ?_, (h.box y hy).2⟩, h.row.set hi hk x⟩
  exact (h.box y hy).1.ne_own h.row (h.box y hy).2.1 g rfl e.symm
theorem WS.congr (h : WS w0 Y g cap r c m w) (hm : ∀ i, i < r → ∀ k, k < c → m i k = m' i k) : WS w0 Y g cap r c m' w := ⟨h.below, h.box, h.row.congr hm⟩
theorem WS.at_ (h : WS w0 Y g cap r c m w) {i k : Nat} (hi : i < r) (hk : k < c) : w.cell? ⟨g, i * c + k, none⟩ = some (.int .u8 ((m i k).toNat : Int)) ∧ w.frozen? ⟨g, i * c + k, none⟩ = false := h.row.at_ hi hk
theorem WS.nw (h : WS w0 Y g cap r c m w) : Nw w0.heap.size w (some ⟨g, 0, none⟩) (flat r c m) := h.row.nw
end
/-- The result's box is written, nothing else. -/
theorem BS.end_ {w0 w : World} {Y : List (Nat × TypeId × Array Value)} (h : BS w0 Y w) {b : Nat} {T : TypeId} {c0 c1 c2 : Value} (hy : (b, T, #[c0, c1, c2]) ∈ Y) (v0 v1 v2 : Value) :
    let w' := (((w.setCell ⟨b, 0, none⟩ v0).setCell ⟨b, 1, none⟩ v1).setCell ⟨b, 2, none⟩ v2)
    Below w0.heap.size w0 w' ∧ Fr (fun k => k = b) w w' ∧ w'.cell? ⟨b, 0, none⟩ = some v0 ∧ w'.cell? ⟨b, 1, none⟩ = some v1 ∧ w'.cell? ⟨b, 2, none⟩ = some v2 := by
  obtain ⟨hb, hf⟩ := set3 (h.box _ hy).1 v0 v1 v2
  exact ⟨h.below.trans (hf.below h.below.size fun k hk => by rw [hk]; exact (h.box _ hy).2.2), hf, (cells3 hb).1⟩
theorem WS.end_ {w0 w : World} {Y : List (Nat × TypeId × Array Value)} {g cap r c : Nat} {m : M} (h : WS w0 Y g cap r c m w) {b : Nat} {T : TypeId} {c0 c1 c2 : Value} (hy : (b, T, #[c0, c1, c2]) ∈ Y) (v0 v1 v2 : Value) :
    let w' := (((w.setCell ⟨b, 0, none⟩ v0).setCell ⟨b, 1, none⟩ v1).setCell ⟨b, 2, none⟩ v2)
    Below w0.heap.size w0 w' ∧ Nw w0.heap.size w' (some ⟨g, 0, none⟩) (flat r c m) ∧ w'.cell? ⟨b, 0, none⟩ = some v0 ∧ w'.cell? ⟨b, 1, none⟩ = some v1 ∧ w'.cell? ⟨b, 2, none⟩ = some v2 := by
  obtain ⟨h1, h2, h3⟩ := h.bs.end_ hy v0 v1 v2
  refine ⟨h1, (h.row.fr h2 fun e => ?_).nw, h3⟩
  exact (h.box _ hy).1.ne_own h.row (h.box _ hy).2.1 g rfl e
def T5 : TypeId := 38
theorem oneM_next (j i k : Nat) : upd (oneM j) j j 1 i k = oneM (j + 1) i k := by
  unfold upd oneM
  by_cases h : i = j ∧ k = j
  · rw [if_pos h, if_pos (by omega)]
  · rw [if_neg h]
    by_cases h2 : i < j ∧ i = k
    · rw [if_pos h2, if_pos (by omega)]
    · rw [if_neg h2, if_neg (by omega)]
set_option maxRecDepth 100000 in
set_option maxHeartbeats 2000000 in
theorem rone_any (w : World) (n : Int) (r : Nat) (hn : max 0 n = (r : Int)) (hr : n ≤ 100) : Calls Try.prog 32 #[.int .i64 n] w (NewM w r r idm) := by
  have HN := Lib.hid (show n ≤ (r : Int) ∧ (0 ≤ n → n = r) ∧ (n < 0 → r = 0) ∧ r ≤ 100 from by omega)
  have m1 := fun W => run_max2 0 n r hn W
  have h4 : ¬ 4096 < n := by omega
  have H0 := Lib.hid (BS.start w)
  have H1 := Lib.hid (H0.out.put #[.int .i64 0, .int .i64 0, .slice none 0 0] 38 (by decide))
  go_enter Try.func32, Try.ntmps32
  go_wp2_with fail
  obtain ⟨g0, hg0⟩ : ∃ x, w.heap.size = x := ⟨_, rfl⟩
  generalize w.alloc (.cells #[.int .i64 0, .int .i64 0, .slice none 0 0] 38) = w1 at *
  rw [hg0] at H1 ⊢
  refine (rnone_any w1 r r (by have h1 : r * r ≤ 100 * 100 := Nat.mul_le_mul (by omega) (by omega); omega)).mono ?_
  rintro e w2 ⟨g, rfl, ho, hb⟩
  have H2 := Lib.hid (H1.out.none_ (g := g) (cap := r * r) (r := r) (c := r) (m := fun _ _ => 0) (show Wm w2 w.heap.size g (r * r) r r _ from ho.down H1.out.below.size) hb)
  clear ho hb m1 hn hr h4
  have H3 := Lib.hid (H2.out.put (mcells r r (some ⟨g, 0, none⟩) (r * r) (r * r)) 38 (by decide))
  go_wp2_with fail
  obtain ⟨gm, hgm⟩ : ∃ x, w2.heap.size = x := ⟨_, rfl⟩
  have HW := Lib.hid (show ∃ x : World, w2.alloc (.cells #[.int .i64 (r : Int), .int .i64 (r : Int), .slice (some ⟨g, 0, none⟩) (r * r) (r * r)] 38) = x from ⟨_, rfl⟩)
  obtain ⟨w3, hw3⟩ := HW.out
  have hw3' : w2.alloc (.cells (mcells r r (some ⟨g, 0, none⟩) (r * r) (r * r)) 38) = w3 := hw3
  rw [hw3'] at H3
  rw [hw3, hgm]
  rw [hgm] at H3
  clear hw3 hw3' HW hgm
  go_loopw [4] (fun i wr => ∃ j : Nat, i = .int .i64 (j : Int) ∧ j ≤ r ∧ WS w [(gm, 38, mcells r r (some ⟨g, 0, none⟩) (r * r) (r * r)), (g0, 38, #[.int .i64 0, .int .i64 0, .slice none 0 0])] g (r * r) r r (oneM j) wr) (fun i _ => r - (intOf i).toNat)
  case atStart => exact ⟨0, rfl, Nat.zero_le _, H3.out.congr fun i _ k _ => by unfold oneM; rw [if_neg (by omega)]⟩
  case round =>
    obtain ⟨j, rfl, hj, h⟩ := hrel
    have H4 := Lib.hid h
    clear h H3
    obtain ⟨w4, rfl⟩ : ∃ w4 : World, w4 = wr := ⟨_, rfl⟩
    have h9 := HN.out
    by_cases hjr : j < r
    · have hnr : n = (r : Int) := by omega
      subst hnr
      obtain ⟨⟨c0, c1, c2⟩, _⟩ := H4.out.cells (.head _)
      obtain ⟨e0, e1⟩ := H4.out.at_ (i := j) (k := j) hjr hjr
      have hjr1 : (j : Int) < (r : Int) := by omega
      obtain ⟨p, hp⟩ : ∃ p, j * r = p := ⟨_, rfl⟩
      have hp1 : (j : Int) * (r : Int) = (p : Int) := by rw [← hp]; simp
      have hpl : p + j < r * r := by rw [← hp]; exact idx_lt hjr hjr
      have hrr : r * r ≤ 100 * 100 := Nat.mul_le_mul (by omega) (by omega)
      have hw1 : IntKind.i64.wrap ((j : Int) * (r : Int)) = (p : Int) := by rw [hp1, IntWalk.i64_in _ (by omega)]
      have hw2 : IntKind.i64.wrap ((p : Int) + (j : Int)) = ((p + j : Nat) : Int) := by rw [IntWalk.i64_in _ (by omega)]; omega
      have hw3 : IntKind.i64.wrap ((j : Int) + 1) = ((j + 1 : Nat) : Int) := by rw [IntWalk.i64_in _ (by omega)]; omega
      obtain ⟨q, hq⟩ : ∃ q, p + j = q := ⟨_, rfl⟩
      rw [hp, hq] at e0 e1
      rw [hq] at hw2
      have hq0 : (0 : Int) ≤ (q : Int) := by omega
      have hq1 : (q : Int) < ((r * r : Nat) : Int) := by omega
      have HQ := Lib.hid (show j * r + j = q from by rw [hp, hq])
      clear hp hq hpl hp1 hrr
      go_wp2_with fail
      go_roundw
      case rel =>
        refine ⟨j + 1, by simp, hjr, ?_⟩
        have h := (H4.out.set hjr hjr 1).congr (m' := oneM (j + 1)) fun i _ k _ => oneM_next j i k
        rw [HQ.out] at h
        exact h
      case measure => simp [intOf]; omega
    · obtain rfl : r = j := by omega
      have hjn : ¬ (r : Int) < n := by omega
      obtain ⟨⟨c0, c1, c2⟩, _⟩ := H4.out.cells (.head _)
      obtain ⟨⟨d0, d1, d2⟩, f0, f1, f2⟩ := H4.out.cells (.tail _ (.head _))
      go_wp2_with fail
      obtain ⟨h1, h2, e0, e1, e2⟩ := H4.out.end_ (.tail _ (.head _)) (.int .i64 (r : Int)) (.int .i64 (r : Int)) (.slice (some ⟨g, 0, none⟩) (r * r) (r * r))
      refine bodyPost_ret (v := .agg #[.int .i64 (r : Int), .int .i64 (r : Int), .slice (some ⟨g, 0, none⟩) (r * r) (r * r)]) (by simp [results, Try.results32, go_sem, e0, e1, e2]) rfl ?_
      refine ⟨some ⟨g, 0, none⟩, r * r, rfl, Nat.le_refl _, ?_, h1⟩
      rw [flat_congr (m' := idm) fun i hi k _ => by unfold oneM idm; simp [hi]] at h2
      exact h2
end Go.Proofs.Ythdapoipfnnaeaa.MxW
/- The document's Symmetric. -/
namespace Go.Proofs.Ythdapoipfnnaeaa.MxW
open Go.RowKit Go.Shelf Mem Gf FdW Mx Rng
open PlW (In)
set_option linter.unusedVariables false
set_option linter.unusedSectionVars false
attribute [local go_sem] Oper.semAt_some wide_fn
set_option maxRecDepth 100000 in
set_option maxHeartbeats 4000000 in
theorem rsym_ok (w : World) (n : Nat) (hn : n ≤ 100) (A : Option Addr) (b : List UInt8) (l cap : Nat) (hl : b.length = l) (h2l : 2 * l = n * (n + 1)) (hA : Bytes w w.heap.size A b) :
    Calls Try.prog 31 #[.int .i64 (n : Int), .slice A l cap] w (NewT w n n (symM n b)) := by
  obtain ⟨P, hP⟩ : ∃ P : Int, (n : Int) * ((n : Int) + 1) = P := ⟨_, rfl⟩
  have hP2 : P = 2 * (l : Int) := by rw [← hP]; have : ((n * (n + 1) : Nat) : Int) = ((2 * l : Nat) : Int) := by rw [h2l]
                                     push_cast at this; omega
  have hl9 : (l : Int) ≤ 10000 := by have h1 : n * (n + 1) ≤ 100 * 101 := Nat.mul_le_mul hn (by omega)
                                     omega
  have q1 : IntKind.i64.wrap ((n : Int) + 1) = (n : Int) + 1 := by rw [IntWalk.i64_in _ (by omega)]
  have q2 : IntKind.i64.wrap P = P := by rw [IntWalk.i64_in _ (by omega)]
  have q3 : P.tdiv 2 = (l : Int) := by rw [Int.tdiv_eq_ediv_of_nonneg (by omega)]; omega
  have q4 : IntKind.i64.wrap (l : Int) = (l : Int) := by rw [IntWalk.i64_in _ (by omega)]
  have q5 : ¬ (n : Int) < 0 := by omega
  have q6 : ¬ (65536 : Int) < (n : Int) := by omega
  have HN := Lib.hid (show n ≤ 100 ∧ b.length = offS n n ∧ (l : Int) ≤ 10000 ∧ b.length = l from ⟨hn, by have := offS_len n; omega, hl9, hl⟩)
  have HA := Lib.hid hA
  have H0 := Lib.hid (BS.start w)
  have H1 := Lib.hid (H0.out.put #[.int .i64 0, .int .i64 0, .slice none 0 0] 38 (by decide))
  clear hP2 hl9 hA h2l hn
  go_enter Try.func31, Try.ntmps31
  go_wp2_with fail
  obtain ⟨g0, hg0⟩ : ∃ x, w.heap.size = x := ⟨_, rfl⟩
  generalize w.alloc (.cells #[.int .i64 0, .int .i64 0, .slice none 0 0] 38) = w1 at *
  rw [hg0] at H1 ⊢
  refine (rnone_any w1 (n) (n) (by have h1 : n * n ≤ 100 * 100 := Nat.mul_le_mul (HN.out.1) (HN.out.1); omega)).mono ?_
  rintro e w2 ⟨g, rfl, ho, hb⟩
  have H2 := Lib.hid (H1.out.none_ (g := g) (cap := n * n) (r := n) (c := n) (m := fun _ _ => 0) (show Wm w2 w.heap.size g (n * n) (n) (n) _ from ho.down H1.out.below.size) hb)
  clear ho hb q1 q2 q3 q4 q5 q6 hP hl
  have H3 := Lib.hid (H2.out.put (mcells (n) (n) (some ⟨g, 0, none⟩) (n * n) (n * n)) 38 (by decide))
  go_wp2_with fail
  obtain ⟨gm, hgm⟩ : ∃ x, w2.heap.size = x := ⟨_, rfl⟩
  obtain ⟨w3, hw3⟩ : ∃ x : World, w2.alloc (.cells #[.int .i64 (n : Int), .int .i64 (n : Int), .slice (some ⟨g, 0, none⟩) (n * n) (n * n)] 38) = x := ⟨_, rfl⟩
  have hw3' : w2.alloc (.cells (mcells (n) (n) (some ⟨g, 0, none⟩) (n * n) (n * n)) 38) = w3 := hw3
  rw [hw3', hgm] at H3
  rw [hw3, hgm]
  clear hw3 hw3' hgm
  go_loopw [7, 8] (fun a i wr => ∃ j : Nat, i = .int .i64 (j : Int) ∧ a = .int .i64 (offS n j : Int) ∧ j ≤ n ∧ WS w [(gm, 38, mcells n n (some ⟨g, 0, none⟩) (n * n) (n * n)), (g0, 38, #[.int .i64 0, .int .i64 0, .slice none 0 0])] g (n * n) n n (symUp n b j j) wr) (fun _ i _ => n - (intOf i).toNat)
  case atStart => exact ⟨0, rfl, rfl, Nat.zero_le _, H3.out.congr fun i _ k _ => by unfold symUp; rw [if_neg (by omega)]⟩
  case round =>
    obtain ⟨i, rfl, rfl, hi, h⟩ := hrel
    have H4 := Lib.hid h
    clear h H3
    obtain ⟨w4, rfl⟩ : ∃ w4 : World, w4 = wr := ⟨_, rfl⟩
    by_cases hin : i < n
    · have hi1 : (i : Int) < (n : Int) := by omega
      have hwi : IntKind.i64.wrap ((i : Int) + 1) = ((i + 1 : Nat) : Int) := by have := HN.out.1; rw [IntWalk.i64_in _ (by omega)]; omega
      have HI := Lib.hid hin
      go_wp2_with fail
      go_loopw [7, 9] (fun a k wr => ∃ j : Nat, k = .int .i64 (j : Int) ∧ a = .int .i64 ((offS n i + (j - i) : Nat) : Int) ∧ i ≤ j ∧ j ≤ n ∧ WS w [(gm, 38, mcells n n (some ⟨g, 0, none⟩) (n * n) (n * n)), (g0, 38, #[.int .i64 0, .int .i64 0, .slice none 0 0])] g (n * n) n n (symUp n b i j) wr) (fun _ k _ => n - (intOf k).toNat)
      case atStart => exact ⟨i, rfl, by rw [Nat.sub_self, Nat.add_zero], Nat.le_refl _, hi, H4.out⟩
      case round =>
        obtain ⟨j, rfl, rfl, hij, hj, h⟩ := hrel
        have H5 := Lib.hid h
        clear h
        obtain ⟨w5, rfl⟩ : ∃ w5 : World, w5 = wr := ⟨_, rfl⟩
        by_cases hjn : j < n
        · have hj1 : (j : Int) < (n : Int) := by omega
          have hj0 : (0 : Int) ≤ (j : Int) := by omega
          obtain ⟨at_, hat⟩ : ∃ at_, offS n i + (j - i) = at_ := ⟨_, rfl⟩
          have HAT := Lib.hid (show at_ < b.length ∧ (at_ : Int) < (l : Int) ∧ offS n i + (j - i) = at_ from by have h1 := offS_lt hin hij hjn; have h2 := HN.out; omega)
          rw [hat]
          have ha0 : (0 : Int) ≤ (at_ : Int) := by omega
          have ha1 : (at_ : Int) < (l : Int) := HAT.out.2.1
          obtain ⟨ab, ob, rfl, _, _⟩ := HA.out.at_ (k := at_) HAT.out.1
          obtain ⟨x, hx⟩ : ∃ x, b[at_]'HAT.out.1 = x := ⟨_, rfl⟩
          have HX := Lib.hid (show ∀ W : World, Below w.heap.size w W → W.cell? ⟨ab, ob + at_, none⟩ = some (.int .u8 (x.toNat : Int)) from fun W hW => by
            obtain ⟨b', o', e', _, hc⟩ := (HA.out.below hW).at_ (k := at_) HAT.out.1
            injection e' with e'; injection e' with e1 e2; subst e1; subst e2
            rw [hx] at hc; exact hc)
          have HXB := Lib.hid (show b.getD (offS n i + (j - i)) 0 = x from by rw [hat, List.getD_eq_getElem?_getD, List.getElem?_eq_getElem HAT.out.1, hx]; rfl)
          obtain ⟨q, hq⟩ : ∃ q, i * n + j = q := ⟨_, rfl⟩
          obtain ⟨s, hs⟩ : ∃ s, j * n + i = s := ⟨_, rfl⟩
          obtain ⟨p1, hp1⟩ : ∃ p1, i * n = p1 := ⟨_, rfl⟩
          obtain ⟨p2, hp2⟩ : ∃ p2, j * n = p2 := ⟨_, rfl⟩
          have HQ := Lib.hid hq
          have HS := Lib.hid hs
          have hql : q < n * n := by rw [← hq]; exact idx_lt hin hjn
          have hsl : s < n * n := by rw [← hs]; exact idx_lt hjn hin
          have hnn : n * n ≤ 100 * 100 := Nat.mul_le_mul HN.out.1 HN.out.1
          have hw1 : IntKind.i64.wrap ((i : Int) * (n : Int)) = (p1 : Int) := by rw [show (i : Int) * (n : Int) = (p1 : Int) by rw [← hp1]; simp, IntWalk.i64_in _ (by omega)]
          have hw2 : IntKind.i64.wrap ((p1 : Int) + (j : Int)) = (q : Int) := by rw [IntWalk.i64_in _ (by omega)]; omega
          have hw3 : IntKind.i64.wrap ((j : Int) * (n : Int)) = (p2 : Int) := by rw [show (j : Int) * (n : Int) = (p2 : Int) by rw [← hp2]; simp, IntWalk.i64_in _ (by omega)]
          have hw4 : IntKind.i64.wrap ((p2 : Int) + (i : Int)) = (s : Int) := by rw [IntWalk.i64_in _ (by omega)]; omega
          have hw5 : IntKind.i64.wrap ((at_ : Int) + 1) = ((at_ + 1 : Nat) : Int) := by have := HN.out.2.2.1; rw [IntWalk.i64_in _ (by omega)]; omega
          have hw6 : IntKind.i64.wrap ((j : Int) + 1) = ((j + 1 : Nat) : Int) := by have := HN.out.1; rw [IntWalk.i64_in _ (by omega)]; omega
          have hq0 : (0 : Int) ≤ (q : Int) := by omega
          have hq1 : (q : Int) < ((n * n : Nat) : Int) := by omega
          have hs0 : (0 : Int) ≤ (s : Int) := by omega
          have hs1 : (s : Int) < ((n * n : Nat) : Int) := by omega
          have HJ := Lib.hid (And.intro hjn hij)
          have hrr0 : (q : Int) < (n : Int) * (n : Int) := by have : ((n * n : Nat) : Int) = (n : Int) * (n : Int) := by simp
                                                              omega
          have hrr1 : (s : Int) < (n : Int) * (n : Int) := by have : ((n * n : Nat) : Int) = (n : Int) * (n : Int) := by simp
                                                              omega
          clear hq hs hp1 hp2 hx hat hql hsl hnn hij hj hq1 hs1
          go_wp2_with fail
          refine wp_region_noPanic ?_
          refine wp_heldG (fun w' => (w'.cell? ⟨gm, 0, none⟩ = some (.int .i64 (n : Int)) ∧ w'.cell? ⟨gm, 1, none⟩ = some (.int .i64 (n : Int)) ∧ w'.cell? ⟨gm, 2, none⟩ = some (.slice (some ⟨g, 0, none⟩) (n * n) (n * n))) ∧ w'.cell? ⟨ab, ob + at_, none⟩ = some (.int .u8 (x.toNat : Int))) [12] (by kernel_rfl) ?hs0 ?rg0
          case hs0 =>
            have h := H5.out.keep (nextN (Mem.start _) 1)
            exact ⟨(h.cells (.head _)).1, HX.out _ h.below⟩
          case rg0 =>
          intro hHeld
          refine puG 0 ⟨some 41, .fieldAddr 38 (.tmp 6) 2, 0, _, #[], none⟩ (v := ?_) ?_ (fun _ => by assumption) ?_
          rotate_left
          · intro w hSw
            try dsimp only at hSw
            go_simp
            try with_reducible rfl
          try simp only [Act.put, List.setIfInBounds_toArray, List.set_cons_zero, List.set_cons_succ]
          refine tkG 1 ⟨some 42, .load 22 (.tmp 41), 22, _, #[⟨0, .data⟩], none⟩ (v := ?_) ?_ (by assumption) ?_
          rotate_left
          · intro w hSw
            try dsimp only at hSw
            obtain ⟨⟨k0, k1, k2⟩, k3⟩ := hSw
            go_simp
            try with_reducible rfl
          try simp only [Act.put, List.setIfInBounds_toArray, List.set_cons_zero, List.set_cons_succ]
          refine puG 2 ⟨some 43, .move (.tmp 8), 3, _, #[], none⟩ (v := ?_) ?_ (fun _ => by assumption) ?_
          rotate_left
          · intro w hSw
            try dsimp only at hSw
            go_simp
            try with_reducible rfl
          try simp only [Act.put, List.setIfInBounds_toArray, List.set_cons_zero, List.set_cons_succ]
          refine puG 3 ⟨some 44, .move (.tmp 0), 3, _, #[], none⟩ (v := ?_) ?_ (fun _ => by assumption) ?_
          rotate_left
          · intro w hSw
            try dsimp only at hSw
            go_simp
            try with_reducible rfl
          try simp only [Act.put, List.setIfInBounds_toArray, List.set_cons_zero, List.set_cons_succ]
          refine puG 4 ⟨some 45, .binOp BinOp.mul 3 (.tmp 43) (.tmp 44) 3, 3, _, #[⟨2, .data⟩, ⟨3, .data⟩], none⟩ (v := ?_) ?_ (fun _ => by assumption) ?_
          rotate_left
          · intro w hSw
            try dsimp only at hSw
            go_simp
            try with_reducible rfl
          try simp only [Act.put, List.setIfInBounds_toArray, List.set_cons_zero, List.set_cons_succ]
          refine puG 5 ⟨some 46, .move (.tmp 9), 3, _, #[], none⟩ (v := ?_) ?_ (fun _ => by assumption) ?_
          rotate_left
          · intro w hSw
            try dsimp only at hSw
            go_simp
            try with_reducible rfl
          try simp only [Act.put, List.setIfInBounds_toArray, List.set_cons_zero, List.set_cons_succ]
          refine puG 6 ⟨some 47, .binOp BinOp.add 3 (.tmp 45) (.tmp 46) 3, 3, _, #[⟨4, .data⟩, ⟨5, .data⟩], none⟩ (v := ?_) ?_ (fun _ => by assumption) ?_
          rotate_left
          · intro w hSw
            try dsimp only at hSw
            go_simp
            try with_reducible rfl
          try simp only [Act.put, List.setIfInBounds_toArray, List.set_cons_zero, List.set_cons_succ]
          refine puG 7 ⟨some 48, .move (.tmp 1), 22, _, #[], none⟩ (v := ?_) ?_ (fun _ => by assumption) ?_
          rotate_left
          · intro w hSw
            try dsimp only at hSw
            go_simp
            try with_reducible rfl
          try simp only [Act.put, List.setIfInBounds_toArray, List.set_cons_zero, List.set_cons_succ]
          refine puG 8 ⟨some 49, .move (.tmp 7), 3, _, #[], none⟩ (v := ?_) ?_ (fun _ => by assumption) ?_
          rotate_left
          · intro w hSw
            try dsimp only at hSw
            go_simp
            try with_reducible rfl
          try simp only [Act.put, List.setIfInBounds_toArray, List.set_cons_zero, List.set_cons_succ]
          refine puG 9 ⟨some 50, .indexAddr 22 (.tmp 48) (.tmp 49), 0, _, #[⟨7, .data⟩, ⟨8, .data⟩], none⟩ (v := ?_) ?_ (fun _ => by assumption) ?_
          rotate_left
          · intro w hSw
            try dsimp only at hSw
            go_simp
            try with_reducible rfl
          try simp only [Act.put, List.setIfInBounds_toArray, List.set_cons_zero, List.set_cons_succ]
          refine tkG 10 ⟨some 51, .load 5 (.tmp 50), 5, _, #[⟨9, .data⟩], none⟩ (v := ?_) ?_ (by assumption) ?_
          rotate_left
          · intro w hSw
            try dsimp only at hSw
            obtain ⟨⟨k0, k1, k2⟩, k3⟩ := hSw
            go_simp
            try with_reducible rfl
          try simp only [Act.put, List.setIfInBounds_toArray, List.set_cons_zero, List.set_cons_succ]
          refine puG 11 ⟨some 52, .indexAddr 22 (.tmp 42) (.tmp 47), 0, _, #[⟨1, .data⟩, ⟨6, .data⟩, ⟨0, .phase⟩, ⟨1, .phase⟩, ⟨2, .phase⟩, ⟨3, .phase⟩, ⟨4, .phase⟩, ⟨5, .phase⟩, ⟨6, .phase⟩, ⟨7, .phase⟩, ⟨8, .phase⟩, ⟨9, .phase⟩, ⟨10, .phase⟩], none⟩ (v := ?_) ?_ (fun _ => by assumption) ?_
          rotate_left
          · intro w hSw
            try dsimp only at hSw
            go_simp
            try with_reducible rfl
          try simp only [Act.put, List.setIfInBounds_toArray, List.set_cons_zero, List.set_cons_succ]
          refine onG 12 ⟨none, .store 5 (.tmp 52) (.tmp 51), 0, _, #[⟨11, .data⟩, ⟨10, .data⟩, ⟨0, .phase⟩, ⟨1, .phase⟩, ⟨2, .phase⟩, ⟨3, .phase⟩, ⟨4, .phase⟩, ⟨5, .phase⟩, ⟨6, .phase⟩, ⟨7, .phase⟩, ⟨8, .phase⟩, ⟨9, .phase⟩, ⟨10, .phase⟩], none⟩ (fun K hK => ?_)
          obtain ⟨s3, s4⟩ := (show WS _ _ _ _ _ _ _ w5.drew from H5.out.keep (nextN (Mem.start _) 1)).at_ HI.out HJ.out.1
          rw [HQ.out] at s3 s4
          go_simp
          try dsimp only
          refine hK.out _ _ ?_ (fun hHeld => ?_)
          · exact fun h => (st_no (by kernel_rfl) h).elim
          clear hK K
          try simp only [Act.put, List.setIfInBounds_toArray, List.set_cons_zero, List.set_cons_succ]
          clear hHeld
          refine wpAnyG_done (by kernel_rfl) ?_ _
          refine NoPanic.normal ?_
          have h := H5.out.set HI.out HJ.out.1 x
          rw [HQ.out] at h
          have H6 := Lib.hid (show WS _ _ _ _ _ _ _ (w5.setCell ⟨g, q, none⟩ (.int .u8 (x.toNat : Int))).drew from h.keep (nextN (Mem.start _) 1))
          clear h
          clear hHeld
          generalize (w5.setCell ⟨g, q, none⟩ (.int .u8 (x.toNat : Int))).drew = w6 at *
          go_wp2_with fail
          refine wp_region_noPanic ?_
          refine wp_heldG (fun w' => (w'.cell? ⟨gm, 0, none⟩ = some (.int .i64 (n : Int)) ∧ w'.cell? ⟨gm, 1, none⟩ = some (.int .i64 (n : Int)) ∧ w'.cell? ⟨gm, 2, none⟩ = some (.slice (some ⟨g, 0, none⟩) (n * n) (n * n))) ∧ w'.cell? ⟨ab, ob + at_, none⟩ = some (.int .u8 (x.toNat : Int))) [12] (by kernel_rfl) ?hs0 ?rg0
          case hs0 =>
            have h := H6.out.keep (nextN (Mem.start _) 1)
            exact ⟨(h.cells (.head _)).1, HX.out _ h.below⟩
          case rg0 =>
          intro hHeld
          refine puG 0 ⟨some 53, .fieldAddr 38 (.tmp 6) 2, 0, _, #[], none⟩ (v := ?_) ?_ (fun _ => by assumption) ?_
          rotate_left
          · intro w hSw
            try dsimp only at hSw
            go_simp
            try with_reducible rfl
          try simp only [Act.put, List.setIfInBounds_toArray, List.set_cons_zero, List.set_cons_succ]
          refine tkG 1 ⟨some 54, .load 22 (.tmp 53), 22, _, #[⟨0, .data⟩], none⟩ (v := ?_) ?_ (by assumption) ?_
          rotate_left
          · intro w hSw
            try dsimp only at hSw
            obtain ⟨⟨k0, k1, k2⟩, k3⟩ := hSw
            go_simp
            try with_reducible rfl
          try simp only [Act.put, List.setIfInBounds_toArray, List.set_cons_zero, List.set_cons_succ]
          refine puG 2 ⟨some 55, .move (.tmp 9), 3, _, #[], none⟩ (v := ?_) ?_ (fun _ => by assumption) ?_
          rotate_left
          · intro w hSw
            try dsimp only at hSw
            go_simp
            try with_reducible rfl
          try simp only [Act.put, List.setIfInBounds_toArray, List.set_cons_zero, List.set_cons_succ]
          refine puG 3 ⟨some 56, .move (.tmp 0), 3, _, #[], none⟩ (v := ?_) ?_ (fun _ => by assumption) ?_
          rotate_left
          · intro w hSw
            try dsimp only at hSw
            go_simp
            try with_reducible rfl
          try simp only [Act.put, List.setIfInBounds_toArray, List.set_cons_zero, List.set_cons_succ]
          refine puG 4 ⟨some 57, .binOp BinOp.mul 3 (.tmp 55) (.tmp 56) 3, 3, _, #[⟨2, .data⟩, ⟨3, .data⟩], none⟩ (v := ?_) ?_ (fun _ => by assumption) ?_
          rotate_left
          · intro w hSw
            try dsimp only at hSw
            go_simp
            try with_reducible rfl
          try simp only [Act.put, List.setIfInBounds_toArray, List.set_cons_zero, List.set_cons_succ]
          refine puG 5 ⟨some 58, .move (.tmp 8), 3, _, #[], none⟩ (v := ?_) ?_ (fun _ => by assumption) ?_
          rotate_left
          · intro w hSw
            try dsimp only at hSw
            go_simp
            try with_reducible rfl
          try simp only [Act.put, List.setIfInBounds_toArray, List.set_cons_zero, List.set_cons_succ]
          refine puG 6 ⟨some 59, .binOp BinOp.add 3 (.tmp 57) (.tmp 58) 3, 3, _, #[⟨4, .data⟩, ⟨5, .data⟩], none⟩ (v := ?_) ?_ (fun _ => by assumption) ?_
          rotate_left
          · intro w hSw
            try dsimp only at hSw
            go_simp
            try with_reducible rfl
          try simp only [Act.put, List.setIfInBounds_toArray, List.set_cons_zero, List.set_cons_succ]
          refine puG 7 ⟨some 60, .move (.tmp 1), 22, _, #[], none⟩ (v := ?_) ?_ (fun _ => by assumption) ?_
          rotate_left
          · intro w hSw
            try dsimp only at hSw
            go_simp
            try with_reducible rfl
          try simp only [Act.put, List.setIfInBounds_toArray, List.set_cons_zero, List.set_cons_succ]
          refine puG 8 ⟨some 61, .move (.tmp 7), 3, _, #[], none⟩ (v := ?_) ?_ (fun _ => by assumption) ?_
          rotate_left
          · intro w hSw
            try dsimp only at hSw
            go_simp
            try with_reducible rfl
          try simp only [Act.put, List.setIfInBounds_toArray, List.set_cons_zero, List.set_cons_succ]
          refine puG 9 ⟨some 62, .indexAddr 22 (.tmp 60) (.tmp 61), 0, _, #[⟨7, .data⟩, ⟨8, .data⟩], none⟩ (v := ?_) ?_ (fun _ => by assumption) ?_
          rotate_left
          · intro w hSw
            try dsimp only at hSw
            go_simp
            try with_reducible rfl
          try simp only [Act.put, List.setIfInBounds_toArray, List.set_cons_zero, List.set_cons_succ]
          refine tkG 10 ⟨some 63, .load 5 (.tmp 62), 5, _, #[⟨9, .data⟩], none⟩ (v := ?_) ?_ (by assumption) ?_
          rotate_left
          · intro w hSw
            try dsimp only at hSw
            obtain ⟨⟨k0, k1, k2⟩, k3⟩ := hSw
            go_simp
            try with_reducible rfl
          try simp only [Act.put, List.setIfInBounds_toArray, List.set_cons_zero, List.set_cons_succ]
          refine puG 11 ⟨some 64, .indexAddr 22 (.tmp 54) (.tmp 59), 0, _, #[⟨1, .data⟩, ⟨6, .data⟩, ⟨0, .phase⟩, ⟨1, .phase⟩, ⟨2, .phase⟩, ⟨3, .phase⟩, ⟨4, .phase⟩, ⟨5, .phase⟩, ⟨6, .phase⟩, ⟨7, .phase⟩, ⟨8, .phase⟩, ⟨9, .phase⟩, ⟨10, .phase⟩], none⟩ (v := ?_) ?_ (fun _ => by assumption) ?_
          rotate_left
          · intro w hSw
            try dsimp only at hSw
            go_simp
            try with_reducible rfl
          try simp only [Act.put, List.setIfInBounds_toArray, List.set_cons_zero, List.set_cons_succ]
          refine onG 12 ⟨none, .store 5 (.tmp 64) (.tmp 63), 0, _, #[⟨11, .data⟩, ⟨10, .data⟩, ⟨0, .phase⟩, ⟨1, .phase⟩, ⟨2, .phase⟩, ⟨3, .phase⟩, ⟨4, .phase⟩, ⟨5, .phase⟩, ⟨6, .phase⟩, ⟨7, .phase⟩, ⟨8, .phase⟩, ⟨9, .phase⟩, ⟨10, .phase⟩], none⟩ (fun K hK => ?_)
          obtain ⟨s3, s4⟩ := (show WS _ _ _ _ _ _ _ w6.drew from H6.out.keep (nextN (Mem.start _) 1)).at_ HJ.out.1 HI.out
          rw [HS.out] at s3 s4
          go_simp
          try dsimp only
          refine hK.out _ _ ?_ (fun hHeld => ?_)
          · exact fun h => (st_no (by kernel_rfl) h).elim
          clear hK K
          try simp only [Act.put, List.setIfInBounds_toArray, List.set_cons_zero, List.set_cons_succ]
          clear hHeld
          refine wpAnyG_done (by kernel_rfl) ?_ _
          refine NoPanic.normal ?_
          have h := H6.out.set HJ.out.1 HI.out x
          rw [HS.out] at h
          have H7 := Lib.hid (show WS _ _ _ _ _ _ _ (w6.setCell ⟨g, s, none⟩ (.int .u8 (x.toNat : Int))).drew from h.keep (nextN (Mem.start _) 1))
          clear h
          clear hHeld
          generalize (w6.setCell ⟨g, s, none⟩ (.int .u8 (x.toNat : Int))).drew = w7 at *
          go_wp2_with fail
          go_roundw
          case rel =>
            refine ⟨j + 1, by simp, ?_, by have := HJ.out.2; omega, HJ.out.1, H7.out.congr fun a _ c _ => ?_⟩
            · rw [show offS n i + (j + 1 - i) = at_ + 1 by have h1 := HAT.out.2.2; have h2 := HJ.out.2; omega]; simp
            · have h := sym_step n b HJ.out.2 a c
              rw [HXB.out] at h
              exact h
          case measure => simp [intOf]; omega
        · obtain rfl : n = j := by omega
          go_wp2_with fail
          go_roundw
          case rel => exact ⟨i + 1, by simp, rfl, hin, H5.out.congr fun a ha c hc => sym_next n b i a c ha hc⟩
          case measure => simp [intOf]; omega
    · obtain rfl : n = i := by omega
      obtain ⟨⟨c0, c1, c2⟩, _⟩ := H4.out.cells (.head _)
      obtain ⟨⟨d0, d1, d2⟩, f0, f1, f2⟩ := H4.out.cells (.tail _ (.head _))
      go_wp2_with fail
      obtain ⟨h1, h2, e0, e1, e2⟩ := H4.out.end_ (.tail _ (.head _)) (.int .i64 (n : Int)) (.int .i64 (n : Int)) (.slice (some ⟨g, 0, none⟩) (n * n) (n * n))
      refine bodyPost_ret (v := .tuple #[.agg #[.int .i64 (n : Int), .int .i64 (n : Int), .slice (some ⟨g, 0, none⟩) (n * n) (n * n)], .int .i64 0]) (by simp [results, Try.results31, go_sem, e0, e1, e2]) rfl ?_
      refine ⟨some ⟨g, 0, none⟩, n * n, rfl, Nat.le_refl _, ?_, h1⟩
      rw [flat_congr (m' := symM n b) fun a ha c hc => by unfold symUp; rw [if_pos (.inl (by omega))]] at h2
      exact h2
set_option maxRecDepth 100000 in
set_option maxHeartbeats 4000000 in
theorem rsym_bad (w : World) (n : Int) (A : Option Addr) (l cap : Nat) (hn : -9223372036854775808 ≤ n ∧ n ≤ 9223372036854775807) (h : n < 0 ∨ 65536 < n ∨ (0 ≤ n ∧ n ≤ 65536 ∧ (l : Int) ≠ n * (n + 1) / 2)) :
    Calls Try.prog 31 #[.int .i64 n, .slice A l cap] w (ErrM w 50) := by
  have H0 := Lib.hid (BS.start w)
  have H1 := Lib.hid (H0.out.put #[.int .i64 0, .int .i64 0, .slice none 0 0] 38 (by decide))
  obtain ⟨⟨d0, d1, d2⟩, f0, f1, f2⟩ := H1.out.cells (.head _)
  rcases h with h | h | ⟨h1, h2, h3⟩
  · skip
    go_enter Try.func31, Try.ntmps31
    go_wp2_with fail
    exact bodyPost_ret (v := .tuple #[.agg #[.int .i64 0, .int .i64 0, .slice none 0 0], .int .i64 50]) (by simp [results, Try.results31, go_sem, d0, d1, d2]) rfl ⟨rfl, H1.out.below⟩
  · have h' : ¬ n < 0 := by omega
    skip
    go_enter Try.func31, Try.ntmps31
    go_wp2_with fail
    exact bodyPost_ret (v := .tuple #[.agg #[.int .i64 0, .int .i64 0, .slice none 0 0], .int .i64 50]) (by simp [results, Try.results31, go_sem, d0, d1, d2]) rfl ⟨rfl, H1.out.below⟩
  · have h' : ¬ n < 0 := by omega
    have h2' : ¬ (65536 : Int) < n := by omega
    have q1 : IntKind.i64.wrap (n + 1) = n + 1 := by rw [IntWalk.i64_in _ (by omega)]
    obtain ⟨P, hP⟩ : ∃ P : Int, n * (n + 1) = P := ⟨_, rfl⟩
    have hP2 : 0 ≤ P ∧ P ≤ 4295032832 := by
      obtain ⟨k, rfl⟩ : ∃ k : Nat, n = (k : Int) := ⟨n.toNat, by omega⟩
      have h4 : k * (k + 1) ≤ 65536 * 65537 := Nat.mul_le_mul (by omega) (by omega)
      rw [← hP]
      have h5 : ((k * (k + 1) : Nat) : Int) = (k : Int) * ((k : Int) + 1) := by simp
      omega
    have q2 : IntKind.i64.wrap P = P := by rw [IntWalk.i64_in _ (by omega)]
    have q3 : P.tdiv 2 = P / 2 := Int.tdiv_eq_ediv_of_nonneg hP2.1
    have q4 : IntKind.i64.wrap (P / 2) = P / 2 := by rw [IntWalk.i64_in _ (by omega)]
    rw [hP] at h3
    obtain ⟨Q, hQ⟩ : ∃ Q, P / 2 = Q := ⟨_, rfl⟩
    rw [hQ] at q3 q4 h3
    have h3' : ((l : Int) != Q) = true := by rw [bne_iff_ne]; exact h3
    clear hQ hP2 h3
    go_enter Try.func31, Try.ntmps31
    go_wp2_with fail
    exact bodyPost_ret (v := .tuple #[.agg #[.int .i64 0, .int .i64 0, .slice none 0 0], .int .i64 50]) (by simp [results, Try.results31, go_sem, d0, d1, d2]) rfl ⟨rfl, H1.out.below⟩
end Go.Proofs.Ythdapoipfnnaeaa.MxW
/- The document's Powers. -/
namespace Go.Proofs.Ythdapoipfnnaeaa.MxW
open Go.RowKit Go.Shelf Mem Gf FdW Mx Rng
open PlW (In)
set_option linter.unusedVariables false
set_option linter.unusedSectionVars false
attribute [local go_sem] Oper.semAt_some wide_fn

/-- A matrix whose bytes are put one behind another: its box gm, its bytes. -/
structure AS (w0 : World) (Y : List (Nat × TypeId × Array Value)) (gm : Nat) (R C : Int) (A : Option Addr) (cap : Nat) (l : List UInt8) (w : World) : Prop where
  bs : BS w0 Y w
  var : Blk w gm 38 #[.int .i64 R, .int .i64 C, .slice A l.length cap]
  row : Mem.Own w w0.heap.size 5 A cap (l.map u8v)
  far : w0.heap.size ≤ gm ∧ ∀ y ∈ Y, y.1 ≠ gm
section
variable {w0 w w' : World} {Y : List (Nat × TypeId × Array Value)} {gm : Nat} {R C : Int} {A : Option Addr} {cap : Nat} {l : List UInt8}
theorem AS.keep (h : AS w0 Y gm R C A cap l w) (hb : Below w.heap.size w w') : AS w0 Y gm R C A cap l w' := ⟨h.bs.keep hb, h.var.keep hb, h.row.keep hb, h.far⟩
theorem AS.cells (h : AS w0 Y gm R C A cap l w) : (w.cell? ⟨gm, 0, none⟩ = some (.int .i64 R) ∧ w.cell? ⟨gm, 1, none⟩ = some (.int .i64 C) ∧ w.cell? ⟨gm, 2, none⟩ = some (.slice A l.length cap)) ∧ w.frozen? ⟨gm, 0, none⟩ = false ∧ w.frozen? ⟨gm, 1, none⟩ = false ∧ w.frozen? ⟨gm, 2, none⟩ = false := cells3 h.var
/-- Bytes put behind it, in another world; the box is still to be written. -/
structure AA (w0 : World) (Y : List (Nat × TypeId × Array Value)) (gm : Nat) (R C : Int) (A : Option Addr) (cap n : Nat) (A' : Option Addr) (cap' : Nat) (l' : List UInt8) (w : World) : Prop where
  bs : BS w0 Y w
  var : Blk w gm 38 #[.int .i64 R, .int .i64 C, .slice A n cap]
  row : Mem.Own w w0.heap.size 5 A' cap' (l'.map u8v)
  far : w0.heap.size ≤ gm ∧ ∀ y ∈ Y, y.1 ≠ gm
theorem AS.app (h : AS w0 Y gm R C A cap l w) {l' : List UInt8} {A' : Option Addr} {cap' : Nat} (ho : Mem.Own w' w0.heap.size 5 A' cap' (l'.map u8v)) (hb : Below w0.heap.size w w') (hg : w.grownBy w' (A.map (·.block))) : AA w0 Y gm R C A cap l.length A' cap' l' w' :=
  ⟨⟨h.bs.below.trans hb, fun y hy => ⟨(h.bs.box y hy).1.app h.row (h.bs.box y hy).2.1 hg, (h.bs.box y hy).2⟩⟩, h.var.app h.row (by decide) hg, ho, h.far⟩
theorem AA.keep {n : Nat} {A' : Option Addr} {cap' : Nat} {l' : List UInt8} (h : AA w0 Y gm R C A cap n A' cap' l' w) (hb : Below w.heap.size w w') : AA w0 Y gm R C A cap n A' cap' l' w' := ⟨h.bs.keep hb, h.var.keep hb, h.row.keep hb, h.far⟩
theorem AA.cells {n : Nat} {A' : Option Addr} {cap' : Nat} {l' : List UInt8} (h : AA w0 Y gm R C A cap n A' cap' l' w) : w.cell? ⟨gm, 2, none⟩ = some (.slice A n cap) ∧ w.frozen? ⟨gm, 2, none⟩ = false := ⟨(cells3 h.var).1.2.2, (cells3 h.var).2.2.2⟩
theorem AA.set {n : Nat} {A' : Option Addr} {cap' : Nat} {l' : List UInt8} (h : AA w0 Y gm R C A cap n A' cap' l' w) : AS w0 Y gm R C A' cap' l' (w.setCell ⟨gm, 2, none⟩ (.slice A' l'.length cap')) := by
  have hf := setF (p := gm) w ⟨gm, 2, none⟩ rfl (.slice A' l'.length cap')
  refine ⟨⟨h.bs.below.trans (hf.below h.bs.below.size fun k hk => by rw [hk]; exact h.far.1), fun y hy => ⟨(h.bs.box y hy).1.fr hf (h.far.2 y hy), (h.bs.box y hy).2⟩⟩, h.var.set_ 2 _, Own.fr h.row hf fun g e e2 => ?_, h.far⟩
  exact h.var.ne_own h.row (by decide) g e e2
theorem AS.start (h : BS w0 Y w) (R C : Int) : AS w0 Y w.heap.size R C none 0 [] (w.alloc (.cells #[.int .i64 R, .int .i64 C, .slice none 0 0] 38)) :=
  ⟨h.keep (nextA (Mem.start w) _), Blk.new w _ _, Mem.Own.nil, h.below.size, fun y hy => by have := (h.box y hy).1.lt; omega⟩
theorem AS.end_ (h : AS w0 Y gm R C A cap l w) {b : Nat} {c0 c1 c2 : Value} (hy : (b, 38, #[c0, c1, c2]) ∈ Y) (v0 v1 v2 : Value) :
    let w' := (((w.setCell ⟨b, 0, none⟩ v0).setCell ⟨b, 1, none⟩ v1).setCell ⟨b, 2, none⟩ v2)
    Below w0.heap.size w0 w' ∧ Nw w0.heap.size w' A l ∧ w'.cell? ⟨b, 0, none⟩ = some v0 ∧ w'.cell? ⟨b, 1, none⟩ = some v1 ∧ w'.cell? ⟨b, 2, none⟩ = some v2 := by
  obtain ⟨h1, h2, h3⟩ := h.bs.end_ hy v0 v1 v2
  refine ⟨h1, Nw.of_own (Own.fr h.row h2 fun g e e2 => ?_), h3⟩
  exact (h.bs.box _ hy).1.ne_own h.row (h.bs.box _ hy).2.1 g e e2
end
set_option maxRecDepth 100000 in
set_option maxHeartbeats 4000000 in
theorem rpow_any (w : World) (A : Option Addr) (xs : List UInt8) (n cap : Nat) (hn : xs.length = n) (cols : Int) (c : Nat) (hA : Bytes w w.heap.size A xs) (hr : n ≤ 1000) (hc : cols ≤ 1000) (hcc : max 0 cols = (c : Int)) :
    Calls Try.prog 33 #[.slice A n cap, .int .i64 cols] w (NewM w n c (powM xs)) := by
  obtain ⟨i0, hi0, hz0, hz1, hz2⟩ := info_parts u8info
  have HI0 := Lib.hid (And.intro hi0 (And.intro hz0 (And.intro hz1 hz2)))
  clear hi0 hz0 hz1 hz2
  have hc0 : 0 ≤ c ∧ c ≤ 1000 := by omega
  have HN := Lib.hid (show n ≤ 1000 ∧ c ≤ 1000 ∧ xs.length = n from ⟨hr, hc0.2, hn⟩)
  have HA := Lib.hid hA
  have H0 := Lib.hid (BS.start w)
  have H1 := Lib.hid (H0.out.put #[.int .i64 0, .int .i64 0, .slice none 0 0] 38 (by decide))
  have h1 : ¬ (65536 : Int) < (n : Int) := by omega
  have h2 : ¬ (65536 : Int) < cols := by omega
  clear hA hn
  go_enter Try.func33, Try.ntmps33
  by_cases hneg : cols < 0
  · obtain rfl : c = 0 := by omega
    have hneg' : ¬ (16777216 : Int) < 0 := by omega
    go_wp2_with fail
    obtain ⟨w1, hw1⟩ : ∃ x : World, w.alloc (.cells #[.int .i64 0, .int .i64 0, .slice none 0 0] 38) = x := ⟨_, rfl⟩
    rw [hw1] at H1
    have HS1 := Lib.hid (show w1.heap.size = w.heap.size + 1 from by rw [← hw1, World.size_alloc])
    have H2 := Lib.hid (AS.start H1.out (n : Int) 0)
    rw [HS1.out] at H2
    rw [hw1]
    generalize w1.alloc (.cells #[.int .i64 (n : Int), .int .i64 0, .slice none 0 0] 38) = w2 at *
    clear hw1 H1 HS1
    obtain ⟨gm, hgm⟩ : ∃ x, w.heap.size + 1 = x := ⟨_, rfl⟩
    rw [hgm] at H2 ⊢
    clear hgm
    go_loopw [6] (fun i wr => ∃ (j : Nat) (A2 : Option Addr) (c2 : Nat), i = .int .i64 (j : Int) ∧ j ≤ n ∧ AS w [(w.heap.size, 38, #[.int .i64 0, .int .i64 0, .slice none 0 0])] gm (n : Int) 0 A2 c2 (flat j 0 (powM xs)) wr) (fun i _ => n - (intOf i).toNat)
    case atStart => exact ⟨0, none, 0, rfl, Nat.zero_le _, by rw [flat_nil]; exact H2.out⟩
    case round =>
      obtain ⟨j, A2, c2, rfl, hj, h⟩ := hrel
      have H4 := Lib.hid h
      clear h H2
      obtain ⟨w4, rfl⟩ : ∃ w4 : World, w4 = wr := ⟨_, rfl⟩
      by_cases hjn : j < n
      · have hj1 : (j : Int) < (n : Int) := by omega
        have hj0 : (0 : Int) ≤ (j : Int) := by omega
        have hwj : IntKind.i64.wrap ((j : Int) + 1) = ((j + 1 : Nat) : Int) := by have := HN.out.1; rw [IntWalk.i64_in _ (by omega)]; omega
        have HJ := Lib.hid hjn
        obtain ⟨ab, ob, rfl, _, _⟩ := HA.out.at_ (k := j) (by rw [HN.out.2.2]; exact hjn)
        obtain ⟨x, hx⟩ : ∃ x, xs.getD j 0 = x := ⟨_, rfl⟩
        have HX := Lib.hid (show ∀ W : World, Below w.heap.size w W → W.cell? ⟨ab, ob + j, none⟩ = some (.int .u8 (x.toNat : Int)) from fun W hW => by
          obtain ⟨b', o', e', _, hc⟩ := (HA.out.below hW).at_ (k := j) (by rw [HN.out.2.2]; exact hjn)
          injection e' with e'; injection e' with e1 e2; subst e1; subst e2
          rw [← hx, List.getD_eq_getElem?_getD, List.getElem?_eq_getElem (by rw [HN.out.2.2]; exact hjn)]; exact hc)
        have HXE := Lib.hid hx
        clear hx
        go_wp2_with fail
        go_loopw [7, 8] (fun p k wr => ∃ (i : Nat) (A3 : Option Addr) (c3 : Nat), k = .int .i64 (i : Int) ∧ p = .int .u8 ((pow x (i : Int)).toNat : Int) ∧ i ≤ 0 ∧ AS w [(w.heap.size, 38, #[.int .i64 0, .int .i64 0, .slice none 0 0])] gm (n : Int) 0 A3 c3 (flat j 0 (powM xs) ++ row i (powM xs j)) wr) (fun _ k _ => 0 - (intOf k).toNat)
        case atStart => exact ⟨0, A2, c2, rfl, by rw [show ((0 : Nat) : Int) = 0 from rfl, pow_zero]; rfl, Nat.zero_le _, by rw [show row 0 (powM xs j) = [] from rfl, List.append_nil]; exact H4.out⟩
        case round =>
          obtain ⟨i, A3, c3, rfl, rfl, hi, h⟩ := hrel
          have H5 := Lib.hid h
          clear h
          obtain ⟨w5, rfl⟩ : ∃ w5 : World, w5 = wr := ⟨_, rfl⟩
          obtain rfl : i = 0 := by omega
          go_wp2_with fail
          go_roundw
          case rel => exact ⟨j + 1, A3, c3, by simp, HJ.out, by rw [flat_succ]; exact H5.out⟩
          case measure => simp [intOf]; omega
      · obtain rfl : j = n := by omega
        obtain ⟨⟨c0, c1, c2'⟩, _⟩ := H4.out.cells
        obtain ⟨⟨d0, d1, d2⟩, f0, f1, f2⟩ := H4.out.bs.cells (.head _)
        obtain ⟨lq, hlq⟩ : ∃ lq, (flat j 0 (powM xs)).length = lq := ⟨_, rfl⟩
        rw [hlq] at c2'
        have hfin := H4.out.end_ (.head _) (.int .i64 (j : Int)) (.int .i64 0) (.slice A2 lq c2)
        have HLQ := Lib.hid (hlq.symm.trans (flat_len _ _ _))
        have HL := Lib.hid (H4.out.row)
        go_wp2_with fail
        obtain ⟨h1, h2, e0, e1, e2⟩ := hfin
        refine bodyPost_ret (v := .agg #[.int .i64 (j : Int), .int .i64 0, .slice A2 lq c2]) (by simp [results, Try.results33, go_sem, e0, e1, e2]) rfl ?_
        have e9 := HLQ.out
        subst e9
        refine ⟨A2, c2, rfl, ?_, h2, h1⟩
        have h3 := HL.out.le
        rw [List.length_map, flat_len] at h3
        exact h3
  · obtain rfl : cols = (c : Int) := by omega
    have h4 : n * c ≤ 1000 * 1000 := Nat.mul_le_mul hr hc0.2
    have h3 : ¬ (16777216 : Int) < ((n * c : Nat) : Int) := by omega
    have h5 : IntKind.i64.wrap ((n : Int) * (c : Int)) = ((n * c : Nat) : Int) := by
      rw [show (n : Int) * (c : Int) = ((n * c : Nat) : Int) by simp, IntWalk.i64_in _ (by omega)]
    clear h4
    obtain ⟨q, hq⟩ : ∃ q, n * c = q := ⟨_, rfl⟩
    rw [hq] at h3 h5
    clear hq
    go_wp2_with fail
    obtain ⟨w1, hw1⟩ : ∃ x : World, w.alloc (.cells #[.int .i64 0, .int .i64 0, .slice none 0 0] 38) = x := ⟨_, rfl⟩
    rw [hw1] at H1
    have HS1 := Lib.hid (show w1.heap.size = w.heap.size + 1 from by rw [← hw1, World.size_alloc])
    have H2 := Lib.hid (AS.start H1.out (n : Int) (c : Int))
    rw [HS1.out] at H2
    rw [hw1]
    generalize w1.alloc (.cells #[.int .i64 (n : Int), .int .i64 (c : Int), .slice none 0 0] 38) = w2 at *
    clear hw1 H1 HS1
    obtain ⟨gm, hgm⟩ : ∃ x, w.heap.size + 1 = x := ⟨_, rfl⟩
    rw [hgm] at H2 ⊢
    clear hgm
    go_loopw [6] (fun i wr => ∃ (j : Nat) (A2 : Option Addr) (c2 : Nat), i = .int .i64 (j : Int) ∧ j ≤ n ∧ AS w [(w.heap.size, 38, #[.int .i64 0, .int .i64 0, .slice none 0 0])] gm (n : Int) (c : Int) A2 c2 (flat j c (powM xs)) wr) (fun i _ => n - (intOf i).toNat)
    case atStart => exact ⟨0, none, 0, rfl, Nat.zero_le _, by rw [flat_nil]; exact H2.out⟩
    case round =>
      obtain ⟨j, A2, c2, rfl, hj, h⟩ := hrel
      have H4 := Lib.hid h
      clear h H2
      obtain ⟨w4, rfl⟩ : ∃ w4 : World, w4 = wr := ⟨_, rfl⟩
      by_cases hjn : j < n
      · have hj1 : (j : Int) < (n : Int) := by omega
        have hj0 : (0 : Int) ≤ (j : Int) := by omega
        have hwj : IntKind.i64.wrap ((j : Int) + 1) = ((j + 1 : Nat) : Int) := by have := HN.out.1; rw [IntWalk.i64_in _ (by omega)]; omega
        have HJ := Lib.hid hjn
        obtain ⟨ab, ob, rfl, _, _⟩ := HA.out.at_ (k := j) (by rw [HN.out.2.2]; exact hjn)
        obtain ⟨x, hx⟩ : ∃ x, xs.getD j 0 = x := ⟨_, rfl⟩
        have HX := Lib.hid (show ∀ W : World, Below w.heap.size w W → W.cell? ⟨ab, ob + j, none⟩ = some (.int .u8 (x.toNat : Int)) from fun W hW => by
          obtain ⟨b', o', e', _, hc⟩ := (HA.out.below hW).at_ (k := j) (by rw [HN.out.2.2]; exact hjn)
          injection e' with e'; injection e' with e1 e2; subst e1; subst e2
          rw [← hx, List.getD_eq_getElem?_getD, List.getElem?_eq_getElem (by rw [HN.out.2.2]; exact hjn)]; exact hc)
        have HXE := Lib.hid hx
        clear hx
        go_wp2_with fail
        go_loopw [7, 8] (fun p k wr => ∃ (i : Nat) (A3 : Option Addr) (c3 : Nat), k = .int .i64 (i : Int) ∧ p = .int .u8 ((pow x (i : Int)).toNat : Int) ∧ i ≤ c ∧ AS w [(w.heap.size, 38, #[.int .i64 0, .int .i64 0, .slice none 0 0])] gm (n : Int) (c : Int) A3 c3 (flat j c (powM xs) ++ row i (powM xs j)) wr) (fun _ k _ => c - (intOf k).toNat)
        case atStart => exact ⟨0, A2, c2, rfl, by rw [show ((0 : Nat) : Int) = 0 from rfl, pow_zero]; rfl, Nat.zero_le _, by rw [show row 0 (powM xs j) = [] from rfl, List.append_nil]; exact H4.out⟩
        case round =>
          obtain ⟨i, A3, c3, rfl, rfl, hi, h⟩ := hrel
          have H5 := Lib.hid h
          clear h
          obtain ⟨w5, rfl⟩ : ∃ w5 : World, w5 = wr := ⟨_, rfl⟩
          by_cases hic : i < c
          · have hi1 : (i : Int) < (c : Int) := by omega
            have hi0 : (0 : Int) ≤ (i : Int) := by omega
            have hwi : IntKind.i64.wrap ((i : Int) + 1) = ((i + 1 : Nat) : Int) := by have := HN.out.2.1; rw [IntWalk.i64_in _ (by omega)]; omega
            obtain ⟨p, hp⟩ : ∃ p, pow x (i : Int) = p := ⟨_, rfl⟩
            rw [hp]
            have HP := Lib.hid (show pow x ((i + 1 : Nat) : Int) = mul p x from by rw [Mx.pow_rp, ← hp, Mx.pow_rp]; rfl)
            have HPM := Lib.hid (show powM xs j i = p from by unfold powM; rw [HXE.out, hp])
            have HIC := Lib.hid hic
            clear hp
            obtain ⟨len, hlen⟩ : ∃ len, (flat j c (powM xs) ++ row i (powM xs j)).length = len := ⟨_, rfl⟩
            have HLN := Lib.hid (show len = ((flat j c (powM xs) ++ row i (powM xs j)).map u8v).length ∧ len ≤ 2000000 from by
              refine ⟨by rw [List.length_map, hlen], ?_⟩
              rw [← hlen, List.length_append, flat_len, row_len]
              have h4 : j * c ≤ 1000 * 1000 := Nat.mul_le_mul (by have := HN.out.1; have := HJ.out; omega) HN.out.2.1
              have := HN.out.2.1
              omega)
            have HLN2 := Lib.hid (show (flat j c (powM xs) ++ row (i + 1) (powM xs j)).length = len + 1 from by rw [← hlen, List.length_append, List.length_append, row_len, row_len]; omega)
            have HLN3 := Lib.hid hlen
            obtain ⟨⟨k0, k1, k2⟩, _⟩ := H5.out.cells
            rw [hlen] at k2
            have hb1 := Mx_build1 w5 (p.toNat : Int)
            have HCO := Lib.hid (cells_one w5 (.int .u8 (p.toNat : Int)) 5 (w5.heap.size + 1) (by omega))
            have H6 := Lib.hid (H5.out.keep (nextA (Mem.start w5) (.cells #[.int .u8 (p.toNat : Int)] 5)))
            obtain ⟨hi0, hz0, hz1, hz2⟩ := HI0.out
            go_wp2_with ((with_reducible show wpList _ _ _ ((⟨some 44, _, _, _, _, _⟩ : Oper) :: _) _ _); refine wpList_app _ rfl _ _ _ rfl w.heap.size 5 i0 _ 1 Try.underlying22 hi0 hz0 hz1 hz2 rfl A3 c3 _ ((flat j c (powM xs) ++ row i (powM xs j)).map u8v) rfl HLN.out.1 H6.out.row _ _ _ 1 [.int .u8 (p.toNat : Int)] rfl rfl HCO.out (by simp [Value.oneCell']) (by rw [← HLN.out.1]; have := HLN.out.2; simp [maxLen]; omega) (by rw [← HLN.out.1]; have := HLN.out.2; simp; omega) H6.out.bs.below.size (len + 1) rfl ?_; intro A4 c4 w6 ho hb hg _; have H7 := Lib.hid (H6.out.app (l' := flat j c (powM xs) ++ row (i + 1) (powM xs j)) (by rw [row_succ, HPM.out, ← List.append_assoc, List.map_append]; exact ho) hb hg); clear ho hb hg; have h8 := H7.out.set; rw [HLN2.out] at h8; have H8 := Lib.hid h8; clear h8; obtain ⟨k3, k4⟩ := H7.out.cells; rw [HLN3.out] at k3; have hx := HX.out _ H8.out.bs.below)
            refine (refMul_any _ _ p x rfl rfl _).mono ?_
            rintro e w' ⟨rfl, rfl⟩
            go_wp2_with fail
            go_roundw
            case rel => exact ⟨i + 1, A4, c4, by simp, by rw [HP.out], HIC.out, H8.out⟩
            case measure => simp [intOf]; omega
          · obtain rfl : i = c := by omega
            go_wp2_with fail
            go_roundw
            case rel => exact ⟨j + 1, A3, c3, by simp, HJ.out, by rw [flat_succ]; exact H5.out⟩
            case measure => simp [intOf]; omega
      · obtain rfl : j = n := by omega
        obtain ⟨⟨c0, c1, c2'⟩, _⟩ := H4.out.cells
        obtain ⟨⟨d0, d1, d2⟩, f0, f1, f2⟩ := H4.out.bs.cells (.head _)
        obtain ⟨lq, hlq⟩ : ∃ lq, (flat j c (powM xs)).length = lq := ⟨_, rfl⟩
        rw [hlq] at c2'
        have hfin := H4.out.end_ (.head _) (.int .i64 (j : Int)) (.int .i64 (c : Int)) (.slice A2 lq c2)
        have HLQ := Lib.hid (hlq.symm.trans (flat_len _ _ _))
        have HL := Lib.hid (H4.out.row)
        go_wp2_with fail
        obtain ⟨h1, h2, e0, e1, e2⟩ := hfin
        refine bodyPost_ret (v := .agg #[.int .i64 (j : Int), .int .i64 (c : Int), .slice A2 lq c2]) (by simp [results, Try.results33, go_sem, e0, e1, e2]) rfl ?_
        have e9 := HLQ.out
        subst e9
        refine ⟨A2, c2, rfl, ?_, h2, h1⟩
        have h3 := HL.out.le
        rw [List.length_map, flat_len] at h3
        exact h3
end Go.Proofs.Ythdapoipfnnaeaa.MxW
/- Rows cut out of a matrix' bytes; the document's Pick. -/
namespace Go.Proofs.Ythdapoipfnnaeaa.MxW
open Go.RowKit Go.Shelf Mem Gf FdW Mx Rng
open PlW (In)
set_option linter.unusedVariables false
set_option linter.unusedSectionVars false
attribute [local go_sem] Oper.semAt_some wide_fn

def cutA (A : Option Addr) (cap lo : Nat) : Option Addr := if cap = lo then A else A.map (·.add lo)
theorem cut_run (W : World) (A : Option Addr) (n cap lo hi : Nat) (h : lo ≤ hi) (h2 : hi ≤ cap) (d e : Nat) (hd : hi - lo = d) (he : cap - lo = e) :
    (Instr.sliceAt 22 (.slice A n cap) (some (.int .i64 (lo : Int))) (some (.int .i64 (hi : Int))) none).run Try.prog W = .ok (.slice (cutA A cap lo) d e) W := by
  have a1 : (lo : Int) ≤ (hi : Int) := by omega
  have a2 : (hi : Int) ≤ (cap : Int) := by omega
  have a3 : (0 : Int) ≤ (lo : Int) := by omega
  have a4 : (0 : Int) ≤ (hi : Int) := by omega
  unfold cutA
  by_cases h3 : cap = lo
  · have a5 : hi ≤ lo := by omega
    obtain rfl : e = 0 := by omega
    go_simp
  · go_simp
theorem cut_bytes {w : World} {B : Nat} {A : Option Addr} {l : List UInt8} (h : Bytes w B A l) {cap lo k : Nat} (hl : lo + k ≤ l.length) (hc : l.length ≤ cap) : Bytes w B (cutA A cap lo) ((l.drop lo).take k) := by
  rcases Nat.eq_zero_or_pos k with rfl | hk
  · rw [List.take_zero]; exact Bytes.nil
  · obtain ⟨b, o, rfl, _⟩ := h.at_ (k := lo) (by omega)
    unfold cutA
    rw [if_neg (by omega), Option.map_some, addr_add]
    exact (h.drop lo).take k
theorem cut_row {w : World} {B r c i cap : Nat} {A : Option Addr} {m : M} (h : Bytes w B A (flat r c m)) (hi : i < r) (hc : r * c ≤ cap) : Bytes w B (cutA A cap (i * c)) (row c (m i)) := by
  rw [← flat_row hi]
  exact cut_bytes h (by rw [flat_len]; exact idx_le hi) (by rw [flat_len]; exact hc)
def i64v (v : Int) : Value := .int .i64 v
def allIn (r : Nat) (ks : List Int) : Bool := ks.all fun v => decide (0 ≤ v ∧ v < (r : Int))
def pickM (m : M) (ks : List Int) : M := fun i k => m (ks.getD i 0).toNat k
def PickOk (w : World) (n c : Nat) (m : M) (ok : Bool) (e : Ending) (w' : World) : Prop := (ok = true → NewT w n c m e w') ∧ (ok = false → ErrM w 2 e w')
set_option maxRecDepth 100000 in
set_option maxHeartbeats 4000000 in
theorem rpick_any (w : World) (r c : Nat) (A : Option Addr) (nn cap : Nat) (m : M) (K : Option Addr) (ks : List Int) (n ck : Nat) (hn : ks.length = n) (hnn : nn = r * c) (hd : r ≤ 100 ∧ c ≤ 100 ∧ n ≤ 100) (hcap : nn ≤ cap) (hA : Bytes w w.heap.size A (flat r c m)) (hK : Cells w w.heap.size K (ks.map i64v)) (h64 : ∀ v ∈ ks, -9223372036854775808 ≤ v ∧ v ≤ 9223372036854775807) :
    Calls Try.prog 29 #[.agg #[.int .i64 (r : Int), .int .i64 (c : Int), .slice A nn cap], .slice K n ck] w (PickOk w n c (pickM m ks) (allIn r ks)) := by
  obtain ⟨i0, hi0, hz0, hz1, hz2⟩ := info_parts u8info
  have HI0 := Lib.hid (And.intro hi0 (And.intro hz0 (And.intro hz1 hz2)))
  clear hi0 hz0 hz1 hz2
  have HN := Lib.hid (And.intro hd (And.intro hn (And.intro hnn hcap)))
  have HA := Lib.hid hA
  have HK := Lib.hid hK
  have H64 := Lib.hid h64
  have h1 : ¬ (65536 : Int) < (n : Int) := by omega
  have hnc : n * c ≤ 100 * 100 := Nat.mul_le_mul hd.2.2 hd.2.1
  obtain ⟨q, hq⟩ : ∃ q, n * c = q := ⟨_, rfl⟩
  have h2 : ¬ (16777216 : Int) < (q : Int) := by omega
  have h3 : IntKind.i64.wrap ((n : Int) * (c : Int)) = (q : Int) := by
    rw [show (n : Int) * (c : Int) = (q : Int) by rw [← hq]; simp, IntWalk.i64_in _ (by omega)]
  have HR := Lib.hid (show rightB (r : Int) (c : Int) nn = true from right_dim ⟨hd.1, hd.2.1⟩ hnn)
  have H0 := Lib.hid (((BS.start w).put (mcells r c A nn cap) 38 (by decide)).put #[.int .i64 0, .int .i64 0, .slice none 0 0] 38 (by decide))
  clear hA hK h64 hnc hq hn hnn hd hcap
  go_enter Try.func29, Try.ntmps29
  obtain ⟨⟨a0, a1, a2⟩, _⟩ := H0.out.cells (.tail _ (.head _))
  go_wp2_with fail
  clear a0 a1 a2
  obtain ⟨w1, hw1⟩ : ∃ x : World, (w.alloc (.cells #[.int .i64 (r : Int), .int .i64 (c : Int), .slice A nn cap] 38)).alloc (.cells #[.int .i64 0, .int .i64 0, .slice none 0 0] 38) = x := ⟨_, rfl⟩
  have hw1' : (w.alloc (.cells (mcells r c A nn cap) 38)).alloc (.cells #[.int .i64 0, .int .i64 0, .slice none 0 0] 38) = w1 := hw1
  rw [hw1', World.size_alloc] at H0
  rw [hw1]
  clear hw1 hw1'
  obtain ⟨ga, hga⟩ : ∃ x, w.heap.size = x := ⟨_, rfl⟩
  obtain ⟨g0, hg0⟩ : ∃ x, ga + 1 = x := ⟨_, rfl⟩
  rw [hga, hg0] at H0 ⊢
  refine (rright_any w1 _ _ A nn cap).mono ?_
  rintro e w2 ⟨rfl, hb⟩
  rw [HR.out]
  have H1 := Lib.hid (H0.out.keep hb)
  clear hb H0
  obtain ⟨⟨a0, a1, a2⟩, _⟩ := H1.out.cells (.tail _ (.head _))
  have H2 := Lib.hid (AS.start H1.out (n : Int) (c : Int))
  go_wp2_with fail
  clear a0 a1 a2 h1 h2 h3
  obtain ⟨gm, hgm⟩ : ∃ x, w2.heap.size = x := ⟨_, rfl⟩
  rw [hgm] at H2 ⊢
  clear hgm
  generalize w2.alloc (.cells #[.int .i64 (n : Int), .int .i64 (c : Int), .slice none 0 0] 38) = w3 at *
  go_loopw [7] (fun i wr => ∃ (j : Nat) (A2 : Option Addr) (c2 : Nat), i = .int .i64 (j : Int) ∧ j ≤ n ∧ (∀ i, i < j → 0 ≤ ks.getD i 0 ∧ ks.getD i 0 < (r : Int)) ∧ AS w [(g0, 38, #[.int .i64 0, .int .i64 0, .slice none 0 0]), (ga, 38, mcells r c A nn cap)] gm (n : Int) (c : Int) A2 c2 (flat j c (pickM m ks)) wr) (fun i _ => n - (intOf i).toNat)
  case atStart => exact ⟨0, none, 0, rfl, Nat.zero_le _, fun i hi => absurd hi (Nat.not_lt_zero _), by rw [flat_nil]; exact H2.out⟩
  case round =>
    obtain ⟨j, A2, c2, rfl, hj, hin, h⟩ := hrel
    have H4 := Lib.hid h
    have HIN := Lib.hid hin
    clear h H2 hin
    obtain ⟨w4, rfl⟩ : ∃ w4 : World, w4 = wr := ⟨_, rfl⟩
    by_cases hjn : j < n
    · have hj1 : (j : Int) < (n : Int) := by omega
      have hj0 : (0 : Int) ≤ (j : Int) := by omega
      have hwj : IntKind.i64.wrap ((j : Int) + 1) = ((j + 1 : Nat) : Int) := by have := HN.out.1.2.2; rw [IntWalk.i64_in _ (by omega)]; omega
      have HJ := Lib.hid hjn
      have hjl : j < (ks.map i64v).length := by rw [List.length_map, HN.out.2.1]; exact hjn
      obtain ⟨kb, ko, rfl, -, -⟩ := HK.out.at_ (k := j) hjl
      obtain ⟨v, hv⟩ : ∃ v, ks.getD j 0 = v := ⟨_, rfl⟩
      have HV := Lib.hid (show ∀ W : World, Below w.heap.size w W → W.cell? ⟨kb, ko + j, none⟩ = some (.int .i64 v) from fun W hW => by
        obtain ⟨b', o', e', _, hc⟩ := (HK.out.below hW).at_ (k := j) hjl
        injection e' with e'; injection e' with e1 e2; subst e1; subst e2
        rw [hc, List.getElem_map, ← hv, List.getD_eq_getElem?_getD, List.getElem?_eq_getElem (by rw [HN.out.2.1]; exact hjn)]; rfl)
      have HVE := Lib.hid hv
      have HVM := Lib.hid (show v ∈ ks from by rw [← hv, List.getD_eq_getElem?_getD, List.getElem?_eq_getElem (by rw [HN.out.2.1]; exact hjn)]; exact List.getElem_mem _)
      clear hv hjl
      obtain ⟨⟨a0, a1, a2⟩, _⟩ := H4.out.bs.cells (.tail _ (.head _))
      have hv0 := HV.out _ H4.out.bs.below
      by_cases hvin : 0 ≤ v ∧ v < (r : Int)
      · obtain ⟨k, rfl⟩ : ∃ k : Nat, v = (k : Int) := ⟨v.toNat, by omega⟩
        have hkr : k < r := by omega
        have hk0 : ¬ (k : Int) < 0 := by omega
        have hk1 : ¬ (r : Int) ≤ (k : Int) := by omega
        have HKR := Lib.hid hkr
        have HCR := Lib.hid (show r * c ≤ cap from by have := HN.out.2.2; omega)
        have hlo : k * c + c ≤ r * c := idx_le hkr
        have hrc : r * c ≤ 100 * 100 := Nat.mul_le_mul HN.out.1.1 HN.out.1.2.1
        obtain ⟨p, hp⟩ : ∃ p, k * c = p := ⟨_, rfl⟩
        obtain ⟨s, hs⟩ : ∃ s, p + c = s := ⟨_, rfl⟩
        have HP := Lib.hid (And.intro hp hs)
        have hw1 : IntKind.i64.wrap ((k : Int) * (c : Int)) = (p : Int) := by rw [show (k : Int) * (c : Int) = (p : Int) by rw [← hp]; simp, IntWalk.i64_in _ (by omega)]
        have hw2 : IntKind.i64.wrap ((p : Int) + (c : Int)) = (s : Int) := by rw [IntWalk.i64_in _ (by omega)]; omega
        have hcut := fun W => cut_run W A nn cap p s (by omega) (by have := HCR.out; omega) c (cap - p) (by omega) rfl
        rw [hp] at hlo
        have HCR2 := Lib.hid (show Bytes w w.heap.size A (flat r c m) → True from fun _ => trivial)
        obtain ⟨lj, hlj⟩ : ∃ lj, (flat j c (pickM m ks)).length = lj := ⟨_, rfl⟩
        have HLJ := Lib.hid (show (flat j c (pickM m ks)).length = lj ∧ lj ≤ 10000 from ⟨hlj, by
          rw [← hlj, flat_len]
          have h4 : j * c ≤ 100 * 100 := Nat.mul_le_mul (by have := HN.out.1.2.2; omega) HN.out.1.2.1
          omega⟩)
        have HMJ := Lib.hid (show pickM m ks j = m k from by unfold pickM; rw [HVE.out]; rfl)
        clear hp hs hlj hlo hrc hvin HCR2 hkr
        go_wp2_with fail
        go_quiet (fail)
        obtain ⟨w5, hw5⟩ : ∃ x : World, w4.drewN nq = x := ⟨_, rfl⟩
        have H5 := Lib.hid (show AS w [(g0, 38, #[.int .i64 0, .int .i64 0, .slice none 0 0]), (ga, 38, mcells r c A nn cap)] gm (n : Int) (c : Int) A2 c2 (flat j c (pickM m ks)) w5 from by rw [← hw5]; exact H4.out.keep (nextN (Mem.start w4) nq))
        rw [hw5]
        clear hw5 hv0 a0 a1 a2
        go_wp2_with fail
        have H4D := Lib.hid (show AS w [(g0, 38, #[.int .i64 0, .int .i64 0, .slice none 0 0]), (ga, 38, mcells r c A nn cap)] gm (n : Int) (c : Int) A2 c2 (flat j c (pickM m ks)) w5.drew from H5.out.keep (nextN (Mem.start w5) 1))
        obtain ⟨hi0, hz0, hz1, hz2⟩ := HI0.out
        refine wp_region_noPanic ?_
        refine wp_heldG (fun w' => w'.cell? ⟨gm, 2, none⟩ = some (.slice A2 lj c2) ∧ (w'.cell? ⟨ga, 0, none⟩ = some (.int .i64 (r : Int)) ∧ w'.cell? ⟨ga, 1, none⟩ = some (.int .i64 (c : Int)) ∧ w'.cell? ⟨ga, 2, none⟩ = some (.slice A nn cap)) ∧ w'.cell? ⟨kb, ko + j, none⟩ = some (.int .i64 (k : Int))) [24] (by kernel_rfl) ?hs0 ?rg0
        case hs0 =>
          have k2 := H4D.out.cells.1.2.2
          rw [HLJ.out.1] at k2
          exact ⟨k2, (H4D.out.bs.cells (.tail _ (.head _))).1, HV.out _ H4D.out.bs.below⟩
        case rg0 =>
        intro hHeld
        refine puG 0 ⟨some 51, .fieldAddr 38 (.tmp 6) 2, 0, _, #[], none⟩ (v := ?_) ?_ (fun _ => by assumption) ?_
        rotate_left
        · intro w hSw
          try dsimp only at hSw
          go_simp
          try with_reducible rfl
        try simp only [Act.put, List.setIfInBounds_toArray, List.set_cons_zero, List.set_cons_succ]
        refine tkG 1 ⟨some 52, .load 22 (.tmp 51), 22, _, #[⟨0, .data⟩], none⟩ (v := ?_) ?_ (by assumption) ?_
        rotate_left
        · intro w hSw
          try dsimp only at hSw
          obtain ⟨k3, ⟨k0, k1, k2⟩, k4⟩ := hSw
          go_simp
          try with_reducible rfl
        try simp only [Act.put, List.setIfInBounds_toArray, List.set_cons_zero, List.set_cons_succ]
        refine puG 2 ⟨some 53, .fieldAddr 38 (.tmp 2) 2, 0, _, #[], none⟩ (v := ?_) ?_ (fun _ => by assumption) ?_
        rotate_left
        · intro w hSw
          try dsimp only at hSw
          go_simp
          try with_reducible rfl
        try simp only [Act.put, List.setIfInBounds_toArray, List.set_cons_zero, List.set_cons_succ]
        refine tkG 3 ⟨some 54, .load 22 (.tmp 53), 22, _, #[⟨2, .data⟩], none⟩ (v := ?_) ?_ (by assumption) ?_
        rotate_left
        · intro w hSw
          try dsimp only at hSw
          obtain ⟨k3, ⟨k0, k1, k2⟩, k4⟩ := hSw
          go_simp
          try with_reducible rfl
        try simp only [Act.put, List.setIfInBounds_toArray, List.set_cons_zero, List.set_cons_succ]
        refine puG 4 ⟨some 55, .move (.tmp 1), 48, _, #[], none⟩ (v := ?_) ?_ (fun _ => by assumption) ?_
        rotate_left
        · intro w hSw
          try dsimp only at hSw
          go_simp
          try with_reducible rfl
        try simp only [Act.put, List.setIfInBounds_toArray, List.set_cons_zero, List.set_cons_succ]
        refine puG 5 ⟨some 56, .move (.tmp 7), 3, _, #[], none⟩ (v := ?_) ?_ (fun _ => by assumption) ?_
        rotate_left
        · intro w hSw
          try dsimp only at hSw
          go_simp
          try with_reducible rfl
        try simp only [Act.put, List.setIfInBounds_toArray, List.set_cons_zero, List.set_cons_succ]
        refine puG 6 ⟨some 57, .indexAddr 48 (.tmp 55) (.tmp 56), 0, _, #[⟨4, .data⟩, ⟨5, .data⟩], none⟩ (v := ?_) ?_ (fun _ => by assumption) ?_
        rotate_left
        · intro w hSw
          try dsimp only at hSw
          go_simp
          try with_reducible rfl
        try simp only [Act.put, List.setIfInBounds_toArray, List.set_cons_zero, List.set_cons_succ]
        refine tkG 7 ⟨some 58, .load 3 (.tmp 57), 3, _, #[⟨6, .data⟩], none⟩ (v := ?_) ?_ (by assumption) ?_
        rotate_left
        · intro w hSw
          try dsimp only at hSw
          obtain ⟨k3, ⟨k0, k1, k2⟩, k4⟩ := hSw
          go_simp
          try with_reducible rfl
        try simp only [Act.put, List.setIfInBounds_toArray, List.set_cons_zero, List.set_cons_succ]
        refine puG 8 ⟨some 59, .fieldAddr 38 (.tmp 2) 1, 0, _, #[], none⟩ (v := ?_) ?_ (fun _ => by assumption) ?_
        rotate_left
        · intro w hSw
          try dsimp only at hSw
          go_simp
          try with_reducible rfl
        try simp only [Act.put, List.setIfInBounds_toArray, List.set_cons_zero, List.set_cons_succ]
        refine tkG 9 ⟨some 60, .load 3 (.tmp 59), 3, _, #[⟨8, .data⟩], none⟩ (v := ?_) ?_ (by assumption) ?_
        rotate_left
        · intro w hSw
          try dsimp only at hSw
          obtain ⟨k3, ⟨k0, k1, k2⟩, k4⟩ := hSw
          go_simp
          try with_reducible rfl
        try simp only [Act.put, List.setIfInBounds_toArray, List.set_cons_zero, List.set_cons_succ]
        refine puG 10 ⟨some 61, .binOp BinOp.mul 3 (.tmp 58) (.tmp 60) 3, 3, _, #[⟨7, .data⟩, ⟨9, .data⟩], none⟩ (v := ?_) ?_ (fun _ => by assumption) ?_
        rotate_left
        · intro w hSw
          try dsimp only at hSw
          go_simp
          try with_reducible rfl
        try simp only [Act.put, List.setIfInBounds_toArray, List.set_cons_zero, List.set_cons_succ]
        refine puG 11 ⟨some 62, .move (.tmp 1), 48, _, #[], none⟩ (v := ?_) ?_ (fun _ => by assumption) ?_
        rotate_left
        · intro w hSw
          try dsimp only at hSw
          go_simp
          try with_reducible rfl
        try simp only [Act.put, List.setIfInBounds_toArray, List.set_cons_zero, List.set_cons_succ]
        refine puG 12 ⟨some 63, .move (.tmp 7), 3, _, #[], none⟩ (v := ?_) ?_ (fun _ => by assumption) ?_
        rotate_left
        · intro w hSw
          try dsimp only at hSw
          go_simp
          try with_reducible rfl
        try simp only [Act.put, List.setIfInBounds_toArray, List.set_cons_zero, List.set_cons_succ]
        refine puG 13 ⟨some 64, .indexAddr 48 (.tmp 62) (.tmp 63), 0, _, #[⟨11, .data⟩, ⟨12, .data⟩], none⟩ (v := ?_) ?_ (fun _ => by assumption) ?_
        rotate_left
        · intro w hSw
          try dsimp only at hSw
          go_simp
          try with_reducible rfl
        try simp only [Act.put, List.setIfInBounds_toArray, List.set_cons_zero, List.set_cons_succ]
        refine tkG 14 ⟨some 65, .load 3 (.tmp 64), 3, _, #[⟨13, .data⟩], none⟩ (v := ?_) ?_ (by assumption) ?_
        rotate_left
        · intro w hSw
          try dsimp only at hSw
          obtain ⟨k3, ⟨k0, k1, k2⟩, k4⟩ := hSw
          go_simp
          try with_reducible rfl
        try simp only [Act.put, List.setIfInBounds_toArray, List.set_cons_zero, List.set_cons_succ]
        refine puG 15 ⟨some 66, .fieldAddr 38 (.tmp 2) 1, 0, _, #[], none⟩ (v := ?_) ?_ (fun _ => by assumption) ?_
        rotate_left
        · intro w hSw
          try dsimp only at hSw
          go_simp
          try with_reducible rfl
        try simp only [Act.put, List.setIfInBounds_toArray, List.set_cons_zero, List.set_cons_succ]
        refine tkG 16 ⟨some 67, .load 3 (.tmp 66), 3, _, #[⟨15, .data⟩], none⟩ (v := ?_) ?_ (by assumption) ?_
        rotate_left
        · intro w hSw
          try dsimp only at hSw
          obtain ⟨k3, ⟨k0, k1, k2⟩, k4⟩ := hSw
          go_simp
          try with_reducible rfl
        try simp only [Act.put, List.setIfInBounds_toArray, List.set_cons_zero, List.set_cons_succ]
        refine puG 17 ⟨some 68, .binOp BinOp.mul 3 (.tmp 65) (.tmp 67) 3, 3, _, #[⟨14, .data⟩, ⟨16, .data⟩], none⟩ (v := ?_) ?_ (fun _ => by assumption) ?_
        rotate_left
        · intro w hSw
          try dsimp only at hSw
          go_simp
          try with_reducible rfl
        try simp only [Act.put, List.setIfInBounds_toArray, List.set_cons_zero, List.set_cons_succ]
        refine puG 18 ⟨some 69, .fieldAddr 38 (.tmp 2) 1, 0, _, #[], none⟩ (v := ?_) ?_ (fun _ => by assumption) ?_
        rotate_left
        · intro w hSw
          try dsimp only at hSw
          go_simp
          try with_reducible rfl
        try simp only [Act.put, List.setIfInBounds_toArray, List.set_cons_zero, List.set_cons_succ]
        refine tkG 19 ⟨some 70, .load 3 (.tmp 69), 3, _, #[⟨18, .data⟩], none⟩ (v := ?_) ?_ (by assumption) ?_
        rotate_left
        · intro w hSw
          try dsimp only at hSw
          obtain ⟨k3, ⟨k0, k1, k2⟩, k4⟩ := hSw
          go_simp
          try with_reducible rfl
        try simp only [Act.put, List.setIfInBounds_toArray, List.set_cons_zero, List.set_cons_succ]
        refine puG 20 ⟨some 71, .binOp BinOp.add 3 (.tmp 68) (.tmp 70) 3, 3, _, #[⟨17, .data⟩, ⟨19, .data⟩], none⟩ (v := ?_) ?_ (fun _ => by assumption) ?_
        rotate_left
        · intro w hSw
          try dsimp only at hSw
          go_simp
          try with_reducible rfl
        try simp only [Act.put, List.setIfInBounds_toArray, List.set_cons_zero, List.set_cons_succ]
        refine puG 21 ⟨some 72, .slice 22 (.tmp 54) (some (.tmp 61)) (some (.tmp 71)) none, 22, _, #[⟨3, .data⟩, ⟨10, .data⟩, ⟨20, .data⟩], none⟩ (v := ?_) ?_ (fun _ => by assumption) ?_
        rotate_left
        · intro w hSw
          try dsimp only at hSw
          go_simp
          try with_reducible rfl
        try simp only [Act.put, List.setIfInBounds_toArray, List.set_cons_zero, List.set_cons_succ]
        refine onG 22 ⟨some 73, .call { callee := Callee.builtin Builtin.append, args := #[.tmp 52, .tmp 72], argTypes := #[22, 22] }, 22, _, #[⟨1, .data⟩, ⟨21, .data⟩], none⟩ (fun K hK => ?_)
        refine step_app _ rfl _ _ _ rfl w.heap.size 5 i0 _ 1 Try.underlying22 hi0 hz0 hz1 hz2 rfl A2 c2 lj ((flat j c (pickM m ks)).map u8v) rfl (by rw [List.length_map, HLJ.out.1]) (H4D.out.row) w.heap.size (cutA A cap p) (cap - p) c ((row c (m k)).map u8v) rfl (by rw [List.length_map, row_len]) (by have h := cut_row (HA.out.below H4D.out.bs.below) HKR.out HCR.out; rw [HP.out.1] at h; exact h) u8v_one (by rw [List.length_map, List.length_map, HLJ.out.1, row_len]; have := HLJ.out.2; have := HN.out.1; simp [maxLen]; omega) (by rw [List.length_map, List.length_map, HLJ.out.1, row_len]; have := HLJ.out.2; have := HN.out.1; omega) H4D.out.bs.below.size (lj + c) rfl ?_
        intro A5 c5 w7 ho7 hb7 hg7 _
        have H7 := Lib.hid (H4D.out.app (l' := flat (j + 1) c (pickM m ks)) (by rw [flat_succ, HMJ.out, List.map_append]; exact ho7) hb7 hg7)
        clear ho7 hb7 hg7
        rw [HLJ.out.1] at H7
        try dsimp only
        refine hK.out _ _ ?_ (fun hHeld => ?_)
        · intro _
          try dsimp only
          exact ⟨H7.out.cells.1, (H7.out.bs.cells (.tail _ (.head _))).1, HV.out _ H7.out.bs.below⟩
        clear hK K
        try simp only [Act.put, List.setIfInBounds_toArray, List.set_cons_zero, List.set_cons_succ]
        have hHeld := hHeld (by kernel_rfl)
        refine puG 23 ⟨some 74, .fieldAddr 38 (.tmp 6) 2, 0, _, #[⟨0, .phase⟩, ⟨1, .phase⟩, ⟨2, .phase⟩, ⟨3, .phase⟩, ⟨4, .phase⟩, ⟨5, .phase⟩, ⟨6, .phase⟩, ⟨7, .phase⟩, ⟨8, .phase⟩, ⟨9, .phase⟩, ⟨10, .phase⟩, ⟨11, .phase⟩, ⟨12, .phase⟩, ⟨13, .phase⟩, ⟨14, .phase⟩, ⟨15, .phase⟩, ⟨16, .phase⟩, ⟨17, .phase⟩, ⟨18, .phase⟩, ⟨19, .phase⟩, ⟨20, .phase⟩, ⟨21, .phase⟩, ⟨22, .phase⟩], none⟩ (v := ?_) ?_ (fun _ => by assumption) ?_
        rotate_left
        · intro w hSw
          try dsimp only at hSw
          go_simp
          try with_reducible rfl
        try simp only [Act.put, List.setIfInBounds_toArray, List.set_cons_zero, List.set_cons_succ]
        refine onG 24 ⟨none, .store 22 (.tmp 74) (.tmp 73), 0, _, #[⟨23, .data⟩, ⟨22, .data⟩, ⟨22, .chain⟩, ⟨0, .phase⟩, ⟨1, .phase⟩, ⟨2, .phase⟩, ⟨3, .phase⟩, ⟨4, .phase⟩, ⟨5, .phase⟩, ⟨6, .phase⟩, ⟨7, .phase⟩, ⟨8, .phase⟩, ⟨9, .phase⟩, ⟨10, .phase⟩, ⟨11, .phase⟩, ⟨12, .phase⟩, ⟨13, .phase⟩, ⟨14, .phase⟩, ⟨15, .phase⟩, ⟨16, .phase⟩, ⟨17, .phase⟩, ⟨18, .phase⟩, ⟨19, .phase⟩, ⟨20, .phase⟩, ⟨21, .phase⟩, ⟨22, .phase⟩], none⟩ (fun K hK => ?_)
        obtain ⟨s3, s4⟩ := H7.out.cells
        go_simp
        try dsimp only
        refine hK.out _ _ ?_ (fun hHeld => ?_)
        · exact fun h => (st_no (by kernel_rfl) h).elim
        clear hK K
        try simp only [Act.put, List.setIfInBounds_toArray, List.set_cons_zero, List.set_cons_succ]
        clear hHeld
        refine wpAnyG_done (by kernel_rfl) ?_ _
        refine NoPanic.normal ?_
        have h8 := H7.out.set
        rw [show (flat (j + 1) c (pickM m ks)).length = lj + c from by rw [flat_succ, List.length_append, HLJ.out.1, row_len]] at h8
        have H8 := Lib.hid h8
        clear h8 hHeld
        go_wp2_with fail
        go_roundw
        case rel =>
          refine ⟨j + 1, A5, c5, by simp, HJ.out, fun i hi => ?_, H8.out⟩
          by_cases e : i = j
          · subst e
            rw [HVE.out]; have := HKR.out; omega
          · exact HIN.out i (by omega)
        case measure => simp [intOf]; omega
      · have HBAD := Lib.hid (show allIn r ks = false from by
          unfold allIn
          rw [List.all_eq_false]
          exact ⟨v, HVM.out, by simp only [decide_eq_true_eq]; exact hvin⟩)
        by_cases hv1 : v < 0
        · clear hvin
          go_wp2_with fail
          go_quiet (fail)
          obtain ⟨⟨d0, d1, d2⟩, f0, f1, f2⟩ := (H4.out.keep (nextN (Mem.start w4) nq)).bs.cells (.head _)
          have hfin := (H4.out.keep (nextN (Mem.start w4) nq)).bs.end_ (.head _) (.int .i64 0) (.int .i64 0) (.slice none 0 0)
          go_wp2_with fail
          obtain ⟨h1, h2, e0, e1, e2⟩ := hfin
          refine bodyPost_ret (v := .tuple #[.agg #[.int .i64 0, .int .i64 0, .slice none 0 0], .int .i64 2]) (by simp [results, Try.results29, go_sem, e0, e1, e2]) rfl ?_
          exact ⟨fun h => (by rw [HBAD.out] at h; cases h), fun _ => ⟨rfl, h1⟩⟩
        · have hv2 : (r : Int) ≤ v := by omega
          clear hvin
          go_wp2_with fail
          go_quiet (fail)
          obtain ⟨⟨d0, d1, d2⟩, f0, f1, f2⟩ := (H4.out.keep (nextN (Mem.start w4) nq)).bs.cells (.head _)
          have hfin := (H4.out.keep (nextN (Mem.start w4) nq)).bs.end_ (.head _) (.int .i64 0) (.int .i64 0) (.slice none 0 0)
          go_wp2_with fail
          obtain ⟨h1, h2, e0, e1, e2⟩ := hfin
          refine bodyPost_ret (v := .tuple #[.agg #[.int .i64 0, .int .i64 0, .slice none 0 0], .int .i64 2]) (by simp [results, Try.results29, go_sem, e0, e1, e2]) rfl ?_
          exact ⟨fun h => (by rw [HBAD.out] at h; cases h), fun _ => ⟨rfl, h1⟩⟩
    · obtain rfl : n = j := by omega
      have HOK := Lib.hid (show allIn r ks = true from by
        unfold allIn
        rw [List.all_eq_true]
        intro v hv
        obtain ⟨i, hi, e⟩ := List.mem_iff_getElem.1 hv
        have h := HIN.out i (by rw [← HN.out.2.1]; exact hi)
        rw [List.getD_eq_getElem?_getD, List.getElem?_eq_getElem hi, Option.getD_some, e] at h
        exact decide_eq_true h)
      obtain ⟨⟨c0, c1, c2'⟩, _⟩ := H4.out.cells
      obtain ⟨⟨d0, d1, d2⟩, f0, f1, f2⟩ := H4.out.bs.cells (.head _)
      obtain ⟨lq, hlq⟩ : ∃ lq, (flat n c (pickM m ks)).length = lq := ⟨_, rfl⟩
      rw [hlq] at c2'
      have hfin := H4.out.end_ (.head _) (.int .i64 (n : Int)) (.int .i64 (c : Int)) (.slice A2 lq c2)
      have HLQ := Lib.hid (hlq.symm.trans (flat_len _ _ _))
      have HL := Lib.hid (H4.out.row)
      go_wp2_with fail
      obtain ⟨h1, h2, e0, e1, e2⟩ := hfin
      refine bodyPost_ret (v := .tuple #[.agg #[.int .i64 (n : Int), .int .i64 (c : Int), .slice A2 lq c2], .int .i64 0]) (by simp [results, Try.results29, go_sem, e0, e1, e2]) rfl ?_
      have e9 := HLQ.out
      subst e9
      refine ⟨fun _ => ⟨A2, c2, rfl, ?_, h2, h1⟩, fun h => ?_⟩
      · have h3 := HL.out.le
        rw [List.length_map, flat_len] at h3
        exact h3
      · rw [HOK.out] at h; cases h
end Go.Proofs.Ythdapoipfnnaeaa.MxW
