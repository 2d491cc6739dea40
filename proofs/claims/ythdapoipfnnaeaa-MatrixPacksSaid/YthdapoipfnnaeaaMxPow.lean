/- Powers. -/
import Derived.Test.YthdapoipfnnaeaaMxInv
namespace Go.Proofs.Ythdapoipfnnaeaa.MxW
open Go.RowKit Go.Shelf Mem Gf FdW Mx Rng
open PlW (In)
set_option linter.unusedVariables false
attribute [local go_sem] Oper.semAt_some wide_fn

def powM (xs : List UInt8) : M := fun i k => pow (xs.getD i 0) (k : Int)
def powUp (xs : List UInt8) (i j : Nat) : M := fun x k => if x < i ∨ (x = i ∧ k < j) then powM xs x k else 0
/-- A new matrix; the field may have been made. -/
def NewMF (w : World) (p r c : Nat) (m : M) (e : Ending) (w' : World) : Prop := ∃ A cap, e = .returned (.agg #[.int .i64 (r : Int), .int .i64 (c : Int), .slice A (r * c) cap]) ∧ r * c ≤ cap ∧ Nw w.heap.size w' A (flat r c m) ∧ Fld w' p ∧ Fr (fun k => k = p) w w'
/-- While Powers goes on: its field gf, its places gb, its result g0. -/
structure PowI (w : World) (p gf gb g0 : Nat) (X : Option Addr) (n cap : Nat) (W : World) : Prop where
  fr : Fr (fun k => k = p) w W
  fld : Fld W p
  ff : Blk W gf 24 (fcellv p)
  bx : Blk W gb 22 #[.slice X n cap]
  res : Blk W g0 27 zmx
structure PowR (w : World) (p gf gb g0 g7 B g r c : Nat) (X : Option Addr) (n cap : Nat) (xs : List UInt8) (i j : Nat) (W : World) : Prop where
  st : PowI w p gf gb g0 X n cap W
  var : Blk W g7 27 (mcells r c (some ⟨g, 0, none⟩) (r * c) (r * c))
  row : Wm W B g (r * c) r c (powUp xs i j)
section
variable {w W W' : World} {p gf gb g0 g7 B g r c : Nat} {X : Option Addr} {n cap : Nat} {xs : List UInt8} {i j : Nat}
theorem PowI.keep (h : PowI w p gf gb g0 X n cap W) (hb : Below W.heap.size W W') : PowI w p gf gb g0 X n cap W' :=
  ⟨h.fr.trans (Fr.quiet (S := fun _ => False) hb) fun _ _ h => h.elim, h.fld.keep hb, h.ff.keep hb, h.bx.keep hb, h.res.keep hb⟩
theorem PowR.keep (h : PowR w p gf gb g0 g7 B g r c X n cap xs i j W) (hb : Below W.heap.size W W') : PowR w p gf gb g0 g7 B g r c X n cap xs i j W' := ⟨h.st.keep hb, h.var.keep hb, h.row.keep hb⟩
theorem PowR.fr_ {S : Nat → Prop} (h : PowR w p gf gb g0 g7 B g r c X n cap xs i j W) (hf : Fr S W W') (hS : ∀ k, S k → w.heap.size ≤ k) (hp : p < w.heap.size) (hg : ¬ S gf ∧ ¬ S gb ∧ ¬ S g0 ∧ ¬ S g7 ∧ ¬ S g) : PowR w p gf gb g0 g7 B g r c X n cap xs i j W' :=
  ⟨⟨h.st.fr.trans hf fun k hk hs => absurd (hS k hs) (by omega), h.st.fld.fr hf fun hs => absurd (hS p hs) (by omega), h.st.ff.fr hf hg.1, h.st.bx.fr hf hg.2.1, h.st.res.fr hf hg.2.2.1⟩, h.var.fr hf hg.2.2.2.1, h.row.fr hf hg.2.2.2.2⟩
theorem PowR.field (h : PowR w p gf gb g0 g7 B g r c X n cap xs i j W) (hf : Fr (fun k => k = p) W W') (hF : Fld W' p) (hg : gf ≠ p ∧ gb ≠ p ∧ g0 ≠ p ∧ g7 ≠ p ∧ g ≠ p) : PowR w p gf gb g0 g7 B g r c X n cap xs i j W' :=
  ⟨⟨h.st.fr.trans hf fun k _ hs => hs, hF, h.st.ff.fr hf hg.1, h.st.bx.fr hf hg.2.1, h.st.res.fr hf hg.2.2.1⟩, h.var.fr hf hg.2.2.2.1, h.row.fr hf hg.2.2.2.2⟩
theorem PowR.congr {i' j' : Nat} (h : PowR w p gf gb g0 g7 B g r c X n cap xs i j W) (e : ∀ x, x < r → ∀ k, k < c → powUp xs i j x k = powUp xs i' j' x k) : PowR w p gf gb g0 g7 B g r c X n cap xs i' j' W := ⟨h.st, h.var, h.row.congr e⟩
/-- One entry more. -/
theorem PowR.set (h : PowR w p gf gb g0 g7 B g r c X n cap xs i j W) (hi : i < r) (hj : j < c) (hg : w.heap.size ≤ g) (hp : p < w.heap.size) (hne : gf ≠ g ∧ gb ≠ g ∧ g0 ≠ g ∧ g7 ≠ g) : PowR w p gf gb g0 g7 B g r c X n cap xs i (j + 1) (W.setCell ⟨g, i * c + j, none⟩ (.int .u8 ((powM xs i j).toNat : Int))) := by
  have hf := setF (p := g) W ⟨g, i * c + j, none⟩ rfl (.int .u8 ((powM xs i j).toNat : Int))
  refine ⟨⟨h.st.fr.trans hf fun k hk hs => absurd hs (by omega), h.st.fld.fr hf (by omega), h.st.ff.fr hf (by omega), h.st.bx.fr hf (by omega), h.st.res.fr hf (by omega)⟩, h.var.fr hf (by omega), (h.row.set hi hj (powM xs i j)).congr fun x _ k _ => ?_⟩
  unfold upd powUp
  by_cases e : x = i ∧ k = j
  · obtain ⟨rfl, rfl⟩ := e
    rw [if_pos ⟨rfl, rfl⟩, if_pos (.inr ⟨rfl, by omega⟩)]
  · rw [if_neg e]
    by_cases e2 : x < i ∨ x = i ∧ k < j
    · rw [if_pos e2, if_pos (by omega)]
    · rw [if_neg e2, if_neg (by omega)]
end
theorem powI_start (w : World) (p : Nat) (hp : Fld w p) (X : Option Addr) (n cap : Nat) : ∃ w1, PowI w p w.heap.size (w.heap.size + 1) (w.heap.size + 1 + 1) X n cap w1 ∧ Below w.heap.size w w1 ∧ w1.heap.size = w.heap.size + 3 ∧
    ((w.alloc (.cells #[fptr (some p)] 24)).alloc (.cells #[.slice X n cap] 22)).alloc (.cells #[.int .i64 0, .int .i64 0, .slice none 0 0] 27) = w1 := by
  obtain ⟨x1, g1, h1, e1, n1⟩ := boxedT w #[fptr (some p)] 24
  obtain ⟨x2, g2, h2, e2, n2⟩ := boxedT x1 #[.slice X n cap] 22
  obtain ⟨x3, g3, h3, e3, n3⟩ := boxed x2 #[.int .i64 0, .int .i64 0, .slice none 0 0]
  have k1 := h1.2.2; have k2 := h2.2.2; have k3 := h3.2.2
  rw [n1]
  obtain rfl : g2 = g1 + 1 := by omega
  obtain rfl : g3 = g1 + 1 + 1 := by omega
  have b := next (next h1.1 h2.1) h3.1
  exact ⟨x3, ⟨Fr.quiet b, hp.keep b, (h1.2.1.keep h2.1).keep h3.1, h2.2.1.keep h3.1, h3.2.1⟩, by rw [← n1]; exact b, by omega, by rw [e1, e2, e3]⟩
set_option maxRecDepth 100000 in
set_option maxHeartbeats 4000000 in
theorem pow_ok1 (w : World) (p : Nat) (hp : Fld w p) (A : Option Addr) (xs : List UInt8) (r cap : Nat) (hn : xs.length = r) (c : Nat) (hA : In w p A xs) (hr : r ≤ 1000 ∧ c ≤ 1000) (hr0 : 0 < r) :
    Calls Try.prog 13 #[fptr (some p), .slice A r cap, .int .i64 (c : Int)] w (NewMF w p r c (powM xs)) := by
  have hl : ((r * c : Nat) : Int) ≤ 1000000000 := by
    have k1 : r * c ≤ 1000 * 1000 := Nat.mul_le_mul (by omega) (by omega)
    omega
  refine of_wide ?_
  refine callsIn_of_wp_marks Try.func13 rfl trivial ?_ rfl
  refine wpIn_wide.2 ?_
  simp only [Try.ntmps13, List.size_toArray, List.length_cons, List.length_nil, Nat.reduceAdd, Nat.reduceSub, Array.replicate_succ, Array.replicate_zero, List.push_toArray, List.append_toArray, List.nil_append, List.cons_append]
  obtain ⟨w1, h1, hb1, hs1, hw1⟩ := powI_start w p hp A r cap
  obtain ⟨gf, hgf⟩ : ∃ x, w.heap.size = x := ⟨_, rfl⟩
  rw [hgf] at h1
  have HW1 := Lib.hid hw1
  have H1 := Lib.hid (And.intro h1 (And.intro hb1 hs1))
  have HG := Lib.hid hgf
  have HA := Lib.hid hA
  have HP := Lib.hid hp
  have HRC := Lib.hid (show r ≤ 1000 ∧ c ≤ 1000 from by omega)
  have HN := Lib.hid (And.intro hn hl)
  have hr1 : (0 : Int) < (r : Int) := by omega
  have hrn : ¬ r = 0 := by omega
  have hlen : decide ((65536 : Int) < (r : Int)) = false := decide_eq_false (by omega)
  have hc1 : decide ((c : Int) < 0) = false := decide_eq_false (by omega)
  have hc2 : decide ((65536 : Int) < (c : Int)) = false := decide_eq_false (by omega)
  obtain ⟨qq, hqq⟩ : ∃ q, (16777216 : Int) / (r : Int) = q := ⟨_, rfl⟩
  have hdv : (c : Int) ≤ qq := by
    have h1 : (16777216 : Int) / (r : Int) ≥ 1000 := Int.le_ediv_of_mul_le hr1 (by omega)
    omega
  have hdn : decide (qq < (c : Int)) = false := decide_eq_false (by omega)
  clear hr
  clear hb1 hs1 hw1 hgf hA hp hn hl h1
  go_wp2_with fail
  rw [HW1.out, HG.out]
  refine (none_any w1 r c HN.out.2).mono ?_
  rintro e w2 ⟨g, rfl, ho, hb⟩
  have H2 := Lib.hid (And.intro (H1.out.1.keep hb) (And.intro (show Wm w2 w1.heap.size g (r * c) r c (fun _ _ => 0) from ho) (show w1.heap.size ≤ w2.heap.size from hb.size)))
  clear ho hb hr0
  go_wp2_with fail
  obtain ⟨w3, g7, h3, hw3, hg7⟩ := boxed w2 (mcells r c (some ⟨g, 0, none⟩) (r * c) (r * c))
  have HW3 := Lib.hid (show w2.alloc (.cells #[.int .i64 (r : Int), .int .i64 (c : Int), .slice (some ⟨g, 0, none⟩) (r * c) (r * c)] 27) = w3 from hw3)
  rw [HW3.out, hg7]
  have H3 := Lib.hid h3
  have HG7 := Lib.hid hg7
  clear hw3 h3 hg7
  refine (rows_any w3 _ _ _).mono ?_
  rintro e w4' ⟨rfl, rfl⟩
  obtain ⟨w4, bm, h4, hw4, hbm⟩ := boxed w3 (mcells r c (some ⟨g, 0, none⟩) (r * c) (r * c))
  have HW4 := Lib.hid (show w3.alloc (.cells #[.int .i64 (r : Int), .int .i64 (c : Int), .slice (some ⟨g, 0, none⟩) (r * c) (r * c)] 27) = w4 from hw4)
  rw [HW4.out, hbm]
  have hap : w.heap.size = gf ∧ w1.heap.size = gf + 3 ∧ w1.heap.size ≤ g ∧ g < g7 ∧ bm = g7 + 1 ∧ w4.heap.size = bm + 1 ∧ p < gf := by
    have k1 := H1.out.2.2; have k2 := H2.out.2.1.form; have k3 := HG7.out; have k4 := H3.out.2.2; have k5 := h4.2.2; have k6 := HP.out.lt; have k7 := HG.out
    omega
  have HAP := Lib.hid hap
  have HI0 := Lib.hid (show PowR w p gf (gf + 1) (gf + 1 + 1) g7 w1.heap.size g r c A r cap xs 0 0 w4 from ⟨(H2.out.1.keep H3.out.1).keep h4.1, H3.out.2.1.keep h4.1, ((H2.out.2.1.keep H3.out.1).keep h4.1).congr fun x _ k _ => by unfold powUp; rw [if_neg (by omega)]⟩)
  have H4 := Lib.hid h4
  clear hw4 hbm h4 hap
  go_wp2_with fail
  refine (wpIn_wide (n := 5)).1 ?_
  refine wpIn_rows bm r c (some ⟨g, 0, none⟩) (r * c) (r * c) rfl H4.out.2.1 (by have := HRC.out; omega) rfl HN.out.2 (Nat.le_refl _) (fun k => k = g ∨ k = p) (by have := HAP.out; omega)
    (fun i W => PowR w p gf (gf + 1) (gf + 1 + 1) g7 w1.heap.size g r c A r cap xs i 0 W) ?hI HI0.out ?hround ?hdone
  case hI =>
    intro i W W' h hf
    have hap := HAP.out
    exact h.fr_ hf (fun k e => by omega) HP.out.lt ⟨by omega, by omega, by omega, by omega, by omega⟩
  case hround =>
    intro l i W hi hlt
    have HLT := Lib.hid hlt
    obtain ⟨Y, hY⟩ : ∃ Y, rowA (some ⟨g, 0, none⟩) c i = Y := ⟨_, rfl⟩
    rw [hY]
    have HY := Lib.hid hY
    clear hlt hi hY
    gi_wp2
    refine ⟨trivial, fun W2 hi2 => ?_⟩
    have H := Lib.hid hi2
    clear hi2
    gi_wp2
    gi_loopw [42] (fun x wr => ∃ j : Nat, x = .int .i64 (j : Int) ∧ j ≤ c ∧ PowR w p gf (gf + 1) (gf + 1 + 1) g7 w1.heap.size g r c A r cap xs i j wr ∧ Fr (fun k => k = g ∨ k = p) W2 wr) (fun x _ => c - (intOf x).toNat)
    case atStart => exact ⟨0, rfl, Nat.zero_le _, H.out, Fr.refl _ _⟩
    case round =>
      obtain ⟨j, rfl, hj, h1, h2⟩ := hrel
      by_cases hjc : j < c
      · obtain ⟨q, hq⟩ : ∃ q, i * c = q := ⟨_, rfl⟩
        have hy := HY.out
        rw [rowA_some (by omega), Nat.zero_add, hq] at hy
        subst hy
        have HQ := Lib.hid hq
        have hji : (j : Int) < (c : Int) := by omega
        have hj0 : (0 : Int) ≤ (j : Int) := by omega
        have hj9 : (j : Int) ≤ 1000 := by have := HRC.out; omega
        have hir : (i : Int) < (r : Int) := by have := HLT.out; omega
        have hi0 : (0 : Int) ≤ (i : Int) := by omega
        obtain ⟨ab, off, hAe, hne, hx1⟩ : ∃ ab off, A = some ⟨ab, off, none⟩ ∧ ab ≠ p ∧ wr.cell? ⟨ab, off + i, none⟩ = some (.int .u8 ((xs.getD i 0).toNat : Int)) := by
          have hlt : i < xs.length := by rw [HN.out.1]; exact HLT.out
          obtain ⟨ab, off, e, _, hc⟩ := (HA.out.field h1.st.fr).1.at_ (k := i) hlt
          rw [List.getD_eq_getElem?_getD, List.getElem?_eq_getElem hlt]
          exact ⟨ab, off, e, HA.out.2 ab off e (by omega), hc⟩
        have HJ := Lib.hid (And.intro h1 (And.intro h2 (And.intro hjc (And.intro hAe hne))))
        obtain ⟨x, hx⟩ : ∃ x, xs.getD i 0 = x := ⟨_, rfl⟩
        rw [hx] at hx1
        have HX := Lib.hid hx
        clear h1 h2 hj hjc hq hx hAe hne
        gi_wp2
        --HELD pow_ok1r
        refine wpIn_only ?_
        refine wpIn_heldG (fun w' => Blk w' gf 24 (fcellv p) ∧ Blk w' (gf + 1) 22 #[.slice A r cap] ∧ w'.cell? ⟨ab, off + i, none⟩ = some (.int .u8 (x.toNat : Int))) [10] (by kernel_rfl) (by kernel_rfl) (fun ⟨_, _, h⟩ => h) ?hs0 ?rg0
        case hs0 =>
          exact ⟨HJ.out.1.st.ff, HJ.out.1.st.bx, hx1⟩
        case rg0 =>
        intro hHeld
        refine wpAnyG_pure (i := 0) (oi := { dst := some 45, op := Op.move (Operand.tmp 9), type := 22, pos := _, after := #[], guard := none }) (v := ?_) rfl (by kernel_rfl) (by kernel_rfl) (by kernel_rfl) (by kernel_rfl) (fun _ _ _ h => h) (Or.inl ⟨by rfl, ?_⟩) (fun _ => by assumption) ?_
        rotate_left
        · intro w hSw
          try dsimp only at hSw
          go_simp
          try with_reducible rfl
        try simp only [Act.put, List.setIfInBounds_toArray, List.set_cons_zero, List.set_cons_succ]
        refine wpAnyG_pure (i := 1) (oi := { dst := some 46, op := Op.move (Operand.tmp 10), type := 3, pos := _, after := #[], guard := none }) (v := ?_) rfl (by kernel_rfl) (by kernel_rfl) (by kernel_rfl) (by kernel_rfl) (fun _ _ _ h => h) (Or.inl ⟨by rfl, ?_⟩) (fun _ => by assumption) ?_
        rotate_left
        · intro w hSw
          try dsimp only at hSw
          go_simp
          try with_reducible rfl
        try simp only [Act.put, List.setIfInBounds_toArray, List.set_cons_zero, List.set_cons_succ]
        refine wpAnyG_take (i := 2) (oi := { dst := some 47, op := Op.load 24 (Operand.tmp 3), type := 24, pos := _, after := #[], guard := none }) (v := ?_) rfl (by kernel_rfl) (by kernel_rfl) (by kernel_rfl) (by kernel_rfl) (fun _ _ _ h => h) (Or.inl ⟨by rfl, ?_⟩) (by assumption) ?_
        rotate_left
        · intro w hSw
          try dsimp only at hSw
          have c0 := hSw.1.cell 0
          simp only [fcellv, List.getElem?_toArray, List.getElem?_cons_zero] at c0
          go_simp
          try with_reducible rfl
        try simp only [Act.put, List.setIfInBounds_toArray, List.set_cons_zero, List.set_cons_succ]
        refine wpAnyG_take (i := 3) (oi := { dst := some 48, op := Op.load 22 (Operand.tmp 4), type := 22, pos := _, after := #[], guard := none }) (v := ?_) rfl (by kernel_rfl) (by kernel_rfl) (by kernel_rfl) (by kernel_rfl) (fun _ _ _ h => h) (Or.inl ⟨by rfl, ?_⟩) (by assumption) ?_
        rotate_left
        · intro w hSw
          try dsimp only at hSw
          have c0 : w.cell? ⟨gf + 1, 0, none⟩ = some (.slice A r cap) := hSw.2.1.cell 0
          go_simp
          try with_reducible rfl
        try simp only [Act.put, List.setIfInBounds_toArray, List.set_cons_zero, List.set_cons_succ]
        refine wpAnyG_pure (i := 4) (oi := { dst := some 49, op := Op.move (Operand.tmp 8), type := 3, pos := _, after := #[], guard := none }) (v := ?_) rfl (by kernel_rfl) (by kernel_rfl) (by kernel_rfl) (by kernel_rfl) (fun _ _ _ h => h) (Or.inl ⟨by rfl, ?_⟩) (fun _ => by assumption) ?_
        rotate_left
        · intro w hSw
          try dsimp only at hSw
          go_simp
          try with_reducible rfl
        try simp only [Act.put, List.setIfInBounds_toArray, List.set_cons_zero, List.set_cons_succ]
        refine wpAnyG_pure (i := 5) (oi := { dst := some 50, op := Op.indexAddr 22 (Operand.tmp 48) (Operand.tmp 49), type := 0, pos := _, after := #[{ on := 3, ground := Ground.data }, { on := 4, ground := Ground.data }], guard := none }) (v := ?_) rfl (by kernel_rfl) (by kernel_rfl) (by kernel_rfl) (by kernel_rfl) (fun _ _ _ h => h) (Or.inl ⟨by rfl, ?_⟩) (fun _ => by assumption) ?_
        rotate_left
        · intro w hSw
          try dsimp only at hSw
          have hAe := HJ.out.2.2.2.1
          go_simp
          try with_reducible rfl
        try simp only [Act.put, List.setIfInBounds_toArray, List.set_cons_zero, List.set_cons_succ]
        refine wpAnyG_take (i := 6) (oi := { dst := some 51, op := Op.load 5 (Operand.tmp 50), type := 5, pos := _, after := #[{ on := 5, ground := Ground.data }], guard := none }) (v := ?_) rfl (by kernel_rfl) (by kernel_rfl) (by kernel_rfl) (by kernel_rfl) (fun _ _ _ h => h) (Or.inl ⟨by rfl, ?_⟩) (by assumption) ?_
        rotate_left
        · intro w hSw
          try dsimp only at hSw
          have c0 := hSw.2.2
          go_simp
          try with_reducible rfl
        try simp only [Act.put, List.setIfInBounds_toArray, List.set_cons_zero, List.set_cons_succ]
        refine wpAnyG_pure (i := 7) (oi := { dst := some 52, op := Op.move (Operand.tmp 10), type := 3, pos := _, after := #[], guard := none }) (v := ?_) rfl (by kernel_rfl) (by kernel_rfl) (by kernel_rfl) (by kernel_rfl) (fun _ _ _ h => h) (Or.inl ⟨by rfl, ?_⟩) (fun _ => by assumption) ?_
        rotate_left
        · intro w hSw
          try dsimp only at hSw
          go_simp
          try with_reducible rfl
        try simp only [Act.put, List.setIfInBounds_toArray, List.set_cons_zero, List.set_cons_succ]
        refine wpAnyG_one (i := 8) (o := { dst := some 53, op := Op.call { callee := Callee.value (Operand.func 45), args := #[Operand.tmp 47, Operand.tmp 51, Operand.tmp 52], argTypes := #[24, 5, 3] }, type := 5, pos := _, after := #[{ on := 2, ground := Ground.data }, { on := 6, ground := Ground.data }, { on := 7, ground := Ground.data }], guard := none }) (by kernel_rfl) rfl (fun K hK => ?_)
        go_simp
        refine (pow_any _ (some p) (FldR.some (HJ.out.1.st.fld.keep (nextN (Mem.start wr) 1))) _ x rfl (j : Int)).mono ?_
        rintro e w6 ⟨rfl, hF, hf⟩
        have hap := HAP.out
        have hf2 : Fr (fun k => k = p) wr w6 := (Fr.quiet (nextN (Mem.start wr) 1)).trans hf (fun _ _ h => by injection h with h; exact h.symm)
        have H6 := Lib.hid (And.intro (HJ.out.1.field hf2 (hF p rfl) (by omega)) hf2)
        clear hF hf hf2 hap
        try dsimp only
        refine hK.out _ _ ?_ (fun hHeld => ?_)
        · intro _
          try dsimp only
          exact ⟨H6.out.1.st.ff, H6.out.1.st.bx, cellFr H6.out.2 hx1 HJ.out.2.2.2.2⟩
        clear hK K
        try simp only [Act.put, List.setIfInBounds_toArray, List.set_cons_zero, List.set_cons_succ]
        have hHeld := hHeld (by kernel_rfl)
        refine wpAnyG_pure (i := 9) (oi := { dst := some 54, op := Op.indexAddr 22 (Operand.tmp 45) (Operand.tmp 46), type := 0, pos := _, after := #[{ on := 0, ground := Ground.data }, { on := 1, ground := Ground.data }, { on := 0, ground := Ground.phase }, { on := 1, ground := Ground.phase }, { on := 2, ground := Ground.phase }, { on := 3, ground := Ground.phase }, { on := 4, ground := Ground.phase }, { on := 5, ground := Ground.phase }, { on := 6, ground := Ground.phase }, { on := 7, ground := Ground.phase }, { on := 8, ground := Ground.phase }], guard := none }) (v := ?_) rfl (by kernel_rfl) (by kernel_rfl) (by kernel_rfl) (by kernel_rfl) (fun _ _ _ h => h) (Or.inl ⟨by rfl, ?_⟩) (fun _ => by assumption) ?_
        rotate_left
        · intro w hSw
          try dsimp only at hSw
          go_simp
          try with_reducible rfl
        try simp only [Act.put, List.setIfInBounds_toArray, List.set_cons_zero, List.set_cons_succ]
        refine wpAnyG_one (i := 10) (o := { dst := none, op := Op.store 5 (Operand.tmp 54) (Operand.tmp 53), type := 0, pos := _, after := #[{ on := 9, ground := Ground.data }, { on := 8, ground := Ground.data }, { on := 8, ground := Ground.chain }, { on := 0, ground := Ground.phase }, { on := 1, ground := Ground.phase }, { on := 2, ground := Ground.phase }, { on := 3, ground := Ground.phase }, { on := 4, ground := Ground.phase }, { on := 5, ground := Ground.phase }, { on := 6, ground := Ground.phase }, { on := 7, ground := Ground.phase }, { on := 8, ground := Ground.phase }], guard := none }) (by kernel_rfl) rfl (fun K hK => ?_)
        obtain ⟨k1, k2⟩ := H6.out.1.row.at_ HLT.out HJ.out.2.2.1
        rw [HQ.out] at k1 k2
        go_simp
        try dsimp only
        refine hK.out _ _ ?_ (fun hHeld => ?_)
        · exact fun h => (st_no (by kernel_rfl) h).elim
        clear hK K
        try simp only [Act.put, List.setIfInBounds_toArray, List.set_cons_zero, List.set_cons_succ]
        clear hHeld
        refine wpAnyG_done (by kernel_rfl) ?_ _
        refine onlyN_end ?_
        --END pow_ok1r
        gi_wp2
        go_roundw
        case rel =>
          have hs := H6.out.1.set HLT.out HJ.out.2.2.1 (by have := HAP.out; omega) HP.out.lt (by have := HAP.out; omega)
          rw [HQ.out, show powM xs i j = pow x (j : Int) from by rw [← HX.out]; rfl] at hs
          have hfr := (HJ.out.2.1.trans (H6.out.2.mono (S' := fun k => k = g ∨ k = p) fun k _ e => .inr e) fun _ _ h => h).trans ((setF (p := g) w6 ⟨g, q + j, none⟩ rfl (.int .u8 ((pow x (j : Int)).toNat : Int))).mono (S' := fun k => k = g ∨ k = p) fun k _ e => .inl e) fun _ _ h => h
          exact ⟨j + 1, by simp, HJ.out.2.2.1, hs, hfr⟩
        case measure => simp [intOf]; omega
      · obtain rfl : c = j := by omega
        have HJ := Lib.hid (And.intro h1 h2)
        clear h1 h2 hj
        gi_wp2
        exact ⟨HJ.out.2, HJ.out.1.congr fun x _ k hk => by
          unfold powUp
          by_cases e : x < i ∨ x = i ∧ k < c
          · rw [if_pos e, if_pos (by omega)]
          · rw [if_neg e, if_neg (by omega)]⟩
  case hdone =>
    intro D W hD hi hK
    have H := Lib.hid hi
    have HK := Lib.hid (And.intro hD hK)
    obtain ⟨⟨c0, c1, c2⟩, _⟩ := cells3 hi.var
    obtain ⟨⟨d0, d1, d2⟩, f0, f1, f2⟩ := cells3 hi.st.res
    obtain ⟨W3, hW3⟩ : ∃ x : World, ((W.setCell ⟨gf + 1 + 1, 0, none⟩ (.int .i64 (r : Int))).setCell ⟨gf + 1 + 1, 1, none⟩ (.int .i64 (c : Int))).setCell ⟨gf + 1 + 1, 2, none⟩ (.slice (some ⟨g, 0, none⟩) (r * c) (r * c)) = x := ⟨_, rfl⟩
    have h3 := set3 hi.st.res (.int .i64 (r : Int)) (.int .i64 (c : Int)) (.slice (some ⟨g, 0, none⟩) (r * c) (r * c))
    rw [hW3] at h3
    have HW3 := Lib.hid hW3
    have HR := Lib.hid h3
    clear hi hK hD h3 hW3
    go_wp2_with fail
    rw [HW3.out]
    have hap := HAP.out
    have hd := HK.out.1
    have hKD : W3.heap[D]? = some (.deferred (some [])) := by
      have h1 := (Array.getElem?_eq_some_iff.1 HK.out.2).1
      rw [HR.out.2.block D h1 (by omega)]; exact HK.out.2
    have hst := shut_still (B := 0) (.deferred none) hKD rfl (Nat.zero_le _)
    obtain ⟨⟨e0, e1, e2⟩, _⟩ := cells3 (hst.blk HR.out.1)
    refine ⟨by simp, .inl ⟨_, _, rfl, run_takeDeferred hKD, ?_⟩⟩
    refine ⟨.agg #[.int .i64 (r : Int), .int .i64 (c : Int), .slice (some ⟨g, 0, none⟩) (r * c) (r * c)], ?_, ?_⟩
    · simp [results, Try.results13, go_sem, e0, e1, e2]
    · have hw := (H.out.row.fr HR.out.2 (by omega)).congr (m' := powM xs) fun x hx k _ => by unfold powUp; rw [if_pos (.inl hx)]
      refine ⟨some ⟨g, 0, none⟩, r * c, rfl, Nat.le_refl _, ?_, ?_, ?_⟩
      · exact Nw.of_own (Own.down (Own.fr hw (put_fr (k := D) _) (fun g' e1 e2 => by injection e1 with e1; have := congrArg Addr.block e1; dsimp only at this; omega)) (by omega))
      · exact (H.out.st.fld.fr HR.out.2 (by omega)).fr (put_fr (k := D) _) (by omega)
      · exact (H.out.st.fr.trans HR.out.2 fun k hk e => absurd hk (by omega)).trans (put_fr (k := D) _) fun k hk e => absurd hk (by omega)
set_option maxRecDepth 100000 in
set_option maxHeartbeats 4000000 in
theorem pow_ok2 (w : World) (p : Nat) (hp : Fld w p) (A : Option Addr) (xs : List UInt8) (r cap : Nat) (hn : xs.length = r) (c : Nat) (hA : In w p A xs) (hr : r ≤ 1000 ∧ c ≤ 1000) (hr0 : r = 0) :
    Calls Try.prog 13 #[fptr (some p), .slice A r cap, .int .i64 (c : Int)] w (NewMF w p r c (powM xs)) := by
  have hl : ((r * c : Nat) : Int) ≤ 1000000000 := by
    have k1 : r * c ≤ 1000 * 1000 := Nat.mul_le_mul (by omega) (by omega)
    omega
  refine of_wide ?_
  refine callsIn_of_wp_marks Try.func13 rfl trivial ?_ rfl
  refine wpIn_wide.2 ?_
  simp only [Try.ntmps13, List.size_toArray, List.length_cons, List.length_nil, Nat.reduceAdd, Nat.reduceSub, Array.replicate_succ, Array.replicate_zero, List.push_toArray, List.append_toArray, List.nil_append, List.cons_append]
  obtain ⟨w1, h1, hb1, hs1, hw1⟩ := powI_start w p hp A r cap
  obtain ⟨gf, hgf⟩ : ∃ x, w.heap.size = x := ⟨_, rfl⟩
  rw [hgf] at h1
  have HW1 := Lib.hid hw1
  have H1 := Lib.hid (And.intro h1 (And.intro hb1 hs1))
  have HG := Lib.hid hgf
  have HA := Lib.hid hA
  have HP := Lib.hid hp
  have HRC := Lib.hid (show r ≤ 1000 ∧ c ≤ 1000 from by omega)
  have HN := Lib.hid (And.intro hn hl)
  have hr1 : decide ((0 : Int) < (r : Int)) = false := decide_eq_false (by omega)
  have hr2 : decide (0 < r) = false := decide_eq_false (by omega)
  have hlen : decide ((65536 : Int) < (r : Int)) = false := decide_eq_false (by omega)
  have hc1 : decide ((c : Int) < 0) = false := decide_eq_false (by omega)
  have hc2 : decide ((65536 : Int) < (c : Int)) = false := decide_eq_false (by omega)
  clear hr hr0
  clear hb1 hs1 hw1 hgf hA hp hn hl h1
  go_wp2_with fail
  rw [HW1.out, HG.out]
  refine (none_any w1 r c HN.out.2).mono ?_
  rintro e w2 ⟨g, rfl, ho, hb⟩
  have H2 := Lib.hid (And.intro (H1.out.1.keep hb) (And.intro (show Wm w2 w1.heap.size g (r * c) r c (fun _ _ => 0) from ho) (show w1.heap.size ≤ w2.heap.size from hb.size)))
  clear ho hb 
  go_wp2_with fail
  obtain ⟨w3, g7, h3, hw3, hg7⟩ := boxed w2 (mcells r c (some ⟨g, 0, none⟩) (r * c) (r * c))
  have HW3 := Lib.hid (show w2.alloc (.cells #[.int .i64 (r : Int), .int .i64 (c : Int), .slice (some ⟨g, 0, none⟩) (r * c) (r * c)] 27) = w3 from hw3)
  rw [HW3.out, hg7]
  have H3 := Lib.hid h3
  have HG7 := Lib.hid hg7
  clear hw3 h3 hg7
  refine (rows_any w3 _ _ _).mono ?_
  rintro e w4' ⟨rfl, rfl⟩
  obtain ⟨w4, bm, h4, hw4, hbm⟩ := boxed w3 (mcells r c (some ⟨g, 0, none⟩) (r * c) (r * c))
  have HW4 := Lib.hid (show w3.alloc (.cells #[.int .i64 (r : Int), .int .i64 (c : Int), .slice (some ⟨g, 0, none⟩) (r * c) (r * c)] 27) = w4 from hw4)
  rw [HW4.out, hbm]
  have hap : w.heap.size = gf ∧ w1.heap.size = gf + 3 ∧ w1.heap.size ≤ g ∧ g < g7 ∧ bm = g7 + 1 ∧ w4.heap.size = bm + 1 ∧ p < gf := by
    have k1 := H1.out.2.2; have k2 := H2.out.2.1.form; have k3 := HG7.out; have k4 := H3.out.2.2; have k5 := h4.2.2; have k6 := HP.out.lt; have k7 := HG.out
    omega
  have HAP := Lib.hid hap
  have HI0 := Lib.hid (show PowR w p gf (gf + 1) (gf + 1 + 1) g7 w1.heap.size g r c A r cap xs 0 0 w4 from ⟨(H2.out.1.keep H3.out.1).keep h4.1, H3.out.2.1.keep h4.1, ((H2.out.2.1.keep H3.out.1).keep h4.1).congr fun x _ k _ => by unfold powUp; rw [if_neg (by omega)]⟩)
  have H4 := Lib.hid h4
  clear hw4 hbm h4 hap
  go_wp2_with fail
  refine (wpIn_wide (n := 5)).1 ?_
  refine wpIn_rows bm r c (some ⟨g, 0, none⟩) (r * c) (r * c) rfl H4.out.2.1 (by have := HRC.out; omega) rfl HN.out.2 (Nat.le_refl _) (fun k => k = g ∨ k = p) (by have := HAP.out; omega)
    (fun i W => PowR w p gf (gf + 1) (gf + 1 + 1) g7 w1.heap.size g r c A r cap xs i 0 W) ?hI HI0.out ?hround ?hdone
  case hI =>
    intro i W W' h hf
    have hap := HAP.out
    exact h.fr_ hf (fun k e => by omega) HP.out.lt ⟨by omega, by omega, by omega, by omega, by omega⟩
  case hround =>
    intro l i W hi hlt
    have HLT := Lib.hid hlt
    obtain ⟨Y, hY⟩ : ∃ Y, rowA (some ⟨g, 0, none⟩) c i = Y := ⟨_, rfl⟩
    rw [hY]
    have HY := Lib.hid hY
    clear hlt hi hY
    gi_wp2
    refine ⟨trivial, fun W2 hi2 => ?_⟩
    have H := Lib.hid hi2
    clear hi2
    gi_wp2
    gi_loopw [42] (fun x wr => ∃ j : Nat, x = .int .i64 (j : Int) ∧ j ≤ c ∧ PowR w p gf (gf + 1) (gf + 1 + 1) g7 w1.heap.size g r c A r cap xs i j wr ∧ Fr (fun k => k = g ∨ k = p) W2 wr) (fun x _ => c - (intOf x).toNat)
    case atStart => exact ⟨0, rfl, Nat.zero_le _, H.out, Fr.refl _ _⟩
    case round =>
      obtain ⟨j, rfl, hj, h1, h2⟩ := hrel
      by_cases hjc : j < c
      · obtain ⟨q, hq⟩ : ∃ q, i * c = q := ⟨_, rfl⟩
        have hy := HY.out
        rw [rowA_some (by omega), Nat.zero_add, hq] at hy
        subst hy
        have HQ := Lib.hid hq
        have hji : (j : Int) < (c : Int) := by omega
        have hj0 : (0 : Int) ≤ (j : Int) := by omega
        have hj9 : (j : Int) ≤ 1000 := by have := HRC.out; omega
        have hir : (i : Int) < (r : Int) := by have := HLT.out; omega
        have hi0 : (0 : Int) ≤ (i : Int) := by omega
        obtain ⟨ab, off, hAe, hne, hx1⟩ : ∃ ab off, A = some ⟨ab, off, none⟩ ∧ ab ≠ p ∧ wr.cell? ⟨ab, off + i, none⟩ = some (.int .u8 ((xs.getD i 0).toNat : Int)) := by
          have hlt : i < xs.length := by rw [HN.out.1]; exact HLT.out
          obtain ⟨ab, off, e, _, hc⟩ := (HA.out.field h1.st.fr).1.at_ (k := i) hlt
          rw [List.getD_eq_getElem?_getD, List.getElem?_eq_getElem hlt]
          exact ⟨ab, off, e, HA.out.2 ab off e (by omega), hc⟩
        have HJ := Lib.hid (And.intro h1 (And.intro h2 (And.intro hjc (And.intro hAe hne))))
        obtain ⟨x, hx⟩ : ∃ x, xs.getD i 0 = x := ⟨_, rfl⟩
        rw [hx] at hx1
        have HX := Lib.hid hx
        clear h1 h2 hj hjc hq hx hAe hne
        gi_wp2
        --HELD pow_ok2r
        refine wpIn_only ?_
        refine wpIn_heldG (fun w' => Blk w' gf 24 (fcellv p) ∧ Blk w' (gf + 1) 22 #[.slice A r cap] ∧ w'.cell? ⟨ab, off + i, none⟩ = some (.int .u8 (x.toNat : Int))) [10] (by kernel_rfl) (by kernel_rfl) (fun ⟨_, _, h⟩ => h) ?hs0 ?rg0
        case hs0 =>
          exact ⟨HJ.out.1.st.ff, HJ.out.1.st.bx, hx1⟩
        case rg0 =>
        intro hHeld
        refine wpAnyG_pure (i := 0) (oi := { dst := some 45, op := Op.move (Operand.tmp 9), type := 22, pos := _, after := #[], guard := none }) (v := ?_) rfl (by kernel_rfl) (by kernel_rfl) (by kernel_rfl) (by kernel_rfl) (fun _ _ _ h => h) (Or.inl ⟨by rfl, ?_⟩) (fun _ => by assumption) ?_
        rotate_left
        · intro w hSw
          try dsimp only at hSw
          go_simp
          try with_reducible rfl
        try simp only [Act.put, List.setIfInBounds_toArray, List.set_cons_zero, List.set_cons_succ]
        refine wpAnyG_pure (i := 1) (oi := { dst := some 46, op := Op.move (Operand.tmp 10), type := 3, pos := _, after := #[], guard := none }) (v := ?_) rfl (by kernel_rfl) (by kernel_rfl) (by kernel_rfl) (by kernel_rfl) (fun _ _ _ h => h) (Or.inl ⟨by rfl, ?_⟩) (fun _ => by assumption) ?_
        rotate_left
        · intro w hSw
          try dsimp only at hSw
          go_simp
          try with_reducible rfl
        try simp only [Act.put, List.setIfInBounds_toArray, List.set_cons_zero, List.set_cons_succ]
        refine wpAnyG_take (i := 2) (oi := { dst := some 47, op := Op.load 24 (Operand.tmp 3), type := 24, pos := _, after := #[], guard := none }) (v := ?_) rfl (by kernel_rfl) (by kernel_rfl) (by kernel_rfl) (by kernel_rfl) (fun _ _ _ h => h) (Or.inl ⟨by rfl, ?_⟩) (by assumption) ?_
        rotate_left
        · intro w hSw
          try dsimp only at hSw
          have c0 := hSw.1.cell 0
          simp only [fcellv, List.getElem?_toArray, List.getElem?_cons_zero] at c0
          go_simp
          try with_reducible rfl
        try simp only [Act.put, List.setIfInBounds_toArray, List.set_cons_zero, List.set_cons_succ]
        refine wpAnyG_take (i := 3) (oi := { dst := some 48, op := Op.load 22 (Operand.tmp 4), type := 22, pos := _, after := #[], guard := none }) (v := ?_) rfl (by kernel_rfl) (by kernel_rfl) (by kernel_rfl) (by kernel_rfl) (fun _ _ _ h => h) (Or.inl ⟨by rfl, ?_⟩) (by assumption) ?_
        rotate_left
        · intro w hSw
          try dsimp only at hSw
          have c0 : w.cell? ⟨gf + 1, 0, none⟩ = some (.slice A r cap) := hSw.2.1.cell 0
          go_simp
          try with_reducible rfl
        try simp only [Act.put, List.setIfInBounds_toArray, List.set_cons_zero, List.set_cons_succ]
        refine wpAnyG_pure (i := 4) (oi := { dst := some 49, op := Op.move (Operand.tmp 8), type := 3, pos := _, after := #[], guard := none }) (v := ?_) rfl (by kernel_rfl) (by kernel_rfl) (by kernel_rfl) (by kernel_rfl) (fun _ _ _ h => h) (Or.inl ⟨by rfl, ?_⟩) (fun _ => by assumption) ?_
        rotate_left
        · intro w hSw
          try dsimp only at hSw
          go_simp
          try with_reducible rfl
        try simp only [Act.put, List.setIfInBounds_toArray, List.set_cons_zero, List.set_cons_succ]
        refine wpAnyG_pure (i := 5) (oi := { dst := some 50, op := Op.indexAddr 22 (Operand.tmp 48) (Operand.tmp 49), type := 0, pos := _, after := #[{ on := 3, ground := Ground.data }, { on := 4, ground := Ground.data }], guard := none }) (v := ?_) rfl (by kernel_rfl) (by kernel_rfl) (by kernel_rfl) (by kernel_rfl) (fun _ _ _ h => h) (Or.inl ⟨by rfl, ?_⟩) (fun _ => by assumption) ?_
        rotate_left
        · intro w hSw
          try dsimp only at hSw
          have hAe := HJ.out.2.2.2.1
          go_simp
          try with_reducible rfl
        try simp only [Act.put, List.setIfInBounds_toArray, List.set_cons_zero, List.set_cons_succ]
        refine wpAnyG_take (i := 6) (oi := { dst := some 51, op := Op.load 5 (Operand.tmp 50), type := 5, pos := _, after := #[{ on := 5, ground := Ground.data }], guard := none }) (v := ?_) rfl (by kernel_rfl) (by kernel_rfl) (by kernel_rfl) (by kernel_rfl) (fun _ _ _ h => h) (Or.inl ⟨by rfl, ?_⟩) (by assumption) ?_
        rotate_left
        · intro w hSw
          try dsimp only at hSw
          have c0 := hSw.2.2
          go_simp
          try with_reducible rfl
        try simp only [Act.put, List.setIfInBounds_toArray, List.set_cons_zero, List.set_cons_succ]
        refine wpAnyG_pure (i := 7) (oi := { dst := some 52, op := Op.move (Operand.tmp 10), type := 3, pos := _, after := #[], guard := none }) (v := ?_) rfl (by kernel_rfl) (by kernel_rfl) (by kernel_rfl) (by kernel_rfl) (fun _ _ _ h => h) (Or.inl ⟨by rfl, ?_⟩) (fun _ => by assumption) ?_
        rotate_left
        · intro w hSw
          try dsimp only at hSw
          go_simp
          try with_reducible rfl
        try simp only [Act.put, List.setIfInBounds_toArray, List.set_cons_zero, List.set_cons_succ]
        refine wpAnyG_one (i := 8) (o := { dst := some 53, op := Op.call { callee := Callee.value (Operand.func 45), args := #[Operand.tmp 47, Operand.tmp 51, Operand.tmp 52], argTypes := #[24, 5, 3] }, type := 5, pos := _, after := #[{ on := 2, ground := Ground.data }, { on := 6, ground := Ground.data }, { on := 7, ground := Ground.data }], guard := none }) (by kernel_rfl) rfl (fun K hK => ?_)
        go_simp
        refine (pow_any _ (some p) (FldR.some (HJ.out.1.st.fld.keep (nextN (Mem.start wr) 1))) _ x rfl (j : Int)).mono ?_
        rintro e w6 ⟨rfl, hF, hf⟩
        have hap := HAP.out
        have hf2 : Fr (fun k => k = p) wr w6 := (Fr.quiet (nextN (Mem.start wr) 1)).trans hf (fun _ _ h => by injection h with h; exact h.symm)
        have H6 := Lib.hid (And.intro (HJ.out.1.field hf2 (hF p rfl) (by omega)) hf2)
        clear hF hf hf2 hap
        try dsimp only
        refine hK.out _ _ ?_ (fun hHeld => ?_)
        · intro _
          try dsimp only
          exact ⟨H6.out.1.st.ff, H6.out.1.st.bx, cellFr H6.out.2 hx1 HJ.out.2.2.2.2⟩
        clear hK K
        try simp only [Act.put, List.setIfInBounds_toArray, List.set_cons_zero, List.set_cons_succ]
        have hHeld := hHeld (by kernel_rfl)
        refine wpAnyG_pure (i := 9) (oi := { dst := some 54, op := Op.indexAddr 22 (Operand.tmp 45) (Operand.tmp 46), type := 0, pos := _, after := #[{ on := 0, ground := Ground.data }, { on := 1, ground := Ground.data }, { on := 0, ground := Ground.phase }, { on := 1, ground := Ground.phase }, { on := 2, ground := Ground.phase }, { on := 3, ground := Ground.phase }, { on := 4, ground := Ground.phase }, { on := 5, ground := Ground.phase }, { on := 6, ground := Ground.phase }, { on := 7, ground := Ground.phase }, { on := 8, ground := Ground.phase }], guard := none }) (v := ?_) rfl (by kernel_rfl) (by kernel_rfl) (by kernel_rfl) (by kernel_rfl) (fun _ _ _ h => h) (Or.inl ⟨by rfl, ?_⟩) (fun _ => by assumption) ?_
        rotate_left
        · intro w hSw
          try dsimp only at hSw
          go_simp
          try with_reducible rfl
        try simp only [Act.put, List.setIfInBounds_toArray, List.set_cons_zero, List.set_cons_succ]
        refine wpAnyG_one (i := 10) (o := { dst := none, op := Op.store 5 (Operand.tmp 54) (Operand.tmp 53), type := 0, pos := _, after := #[{ on := 9, ground := Ground.data }, { on := 8, ground := Ground.data }, { on := 8, ground := Ground.chain }, { on := 0, ground := Ground.phase }, { on := 1, ground := Ground.phase }, { on := 2, ground := Ground.phase }, { on := 3, ground := Ground.phase }, { on := 4, ground := Ground.phase }, { on := 5, ground := Ground.phase }, { on := 6, ground := Ground.phase }, { on := 7, ground := Ground.phase }, { on := 8, ground := Ground.phase }], guard := none }) (by kernel_rfl) rfl (fun K hK => ?_)
        obtain ⟨k1, k2⟩ := H6.out.1.row.at_ HLT.out HJ.out.2.2.1
        rw [HQ.out] at k1 k2
        go_simp
        try dsimp only
        refine hK.out _ _ ?_ (fun hHeld => ?_)
        · exact fun h => (st_no (by kernel_rfl) h).elim
        clear hK K
        try simp only [Act.put, List.setIfInBounds_toArray, List.set_cons_zero, List.set_cons_succ]
        clear hHeld
        refine wpAnyG_done (by kernel_rfl) ?_ _
        refine onlyN_end ?_
        --END pow_ok2r
        gi_wp2
        go_roundw
        case rel =>
          have hs := H6.out.1.set HLT.out HJ.out.2.2.1 (by have := HAP.out; omega) HP.out.lt (by have := HAP.out; omega)
          rw [HQ.out, show powM xs i j = pow x (j : Int) from by rw [← HX.out]; rfl] at hs
          have hfr := (HJ.out.2.1.trans (H6.out.2.mono (S' := fun k => k = g ∨ k = p) fun k _ e => .inr e) fun _ _ h => h).trans ((setF (p := g) w6 ⟨g, q + j, none⟩ rfl (.int .u8 ((pow x (j : Int)).toNat : Int))).mono (S' := fun k => k = g ∨ k = p) fun k _ e => .inl e) fun _ _ h => h
          exact ⟨j + 1, by simp, HJ.out.2.2.1, hs, hfr⟩
        case measure => simp [intOf]; omega
      · obtain rfl : c = j := by omega
        have HJ := Lib.hid (And.intro h1 h2)
        clear h1 h2 hj
        gi_wp2
        exact ⟨HJ.out.2, HJ.out.1.congr fun x _ k hk => by
          unfold powUp
          by_cases e : x < i ∨ x = i ∧ k < c
          · rw [if_pos e, if_pos (by omega)]
          · rw [if_neg e, if_neg (by omega)]⟩
  case hdone =>
    intro D W hD hi hK
    have H := Lib.hid hi
    have HK := Lib.hid (And.intro hD hK)
    obtain ⟨⟨c0, c1, c2⟩, _⟩ := cells3 hi.var
    obtain ⟨⟨d0, d1, d2⟩, f0, f1, f2⟩ := cells3 hi.st.res
    obtain ⟨W3, hW3⟩ : ∃ x : World, ((W.setCell ⟨gf + 1 + 1, 0, none⟩ (.int .i64 (r : Int))).setCell ⟨gf + 1 + 1, 1, none⟩ (.int .i64 (c : Int))).setCell ⟨gf + 1 + 1, 2, none⟩ (.slice (some ⟨g, 0, none⟩) (r * c) (r * c)) = x := ⟨_, rfl⟩
    have h3 := set3 hi.st.res (.int .i64 (r : Int)) (.int .i64 (c : Int)) (.slice (some ⟨g, 0, none⟩) (r * c) (r * c))
    rw [hW3] at h3
    have HW3 := Lib.hid hW3
    have HR := Lib.hid h3
    clear hi hK hD h3 hW3
    go_wp2_with fail
    rw [HW3.out]
    have hap := HAP.out
    have hd := HK.out.1
    have hKD : W3.heap[D]? = some (.deferred (some [])) := by
      have h1 := (Array.getElem?_eq_some_iff.1 HK.out.2).1
      rw [HR.out.2.block D h1 (by omega)]; exact HK.out.2
    have hst := shut_still (B := 0) (.deferred none) hKD rfl (Nat.zero_le _)
    obtain ⟨⟨e0, e1, e2⟩, _⟩ := cells3 (hst.blk HR.out.1)
    refine ⟨by simp, .inl ⟨_, _, rfl, run_takeDeferred hKD, ?_⟩⟩
    refine ⟨.agg #[.int .i64 (r : Int), .int .i64 (c : Int), .slice (some ⟨g, 0, none⟩) (r * c) (r * c)], ?_, ?_⟩
    · simp [results, Try.results13, go_sem, e0, e1, e2]
    · have hw := (H.out.row.fr HR.out.2 (by omega)).congr (m' := powM xs) fun x hx k _ => by unfold powUp; rw [if_pos (.inl hx)]
      refine ⟨some ⟨g, 0, none⟩, r * c, rfl, Nat.le_refl _, ?_, ?_, ?_⟩
      · exact Nw.of_own (Own.down (Own.fr hw (put_fr (k := D) _) (fun g' e1 e2 => by injection e1 with e1; have := congrArg Addr.block e1; dsimp only at this; omega)) (by omega))
      · exact (H.out.st.fld.fr HR.out.2 (by omega)).fr (put_fr (k := D) _) (by omega)
      · exact (H.out.st.fr.trans HR.out.2 fun k hk e => absurd hk (by omega)).trans (put_fr (k := D) _) fun k hk e => absurd hk (by omega)
set_option maxRecDepth 100000 in
set_option maxHeartbeats 4000000 in
theorem pow_ok3 (w : World) (p : Nat) (hp : Fld w p) (A : Option Addr) (xs : List UInt8) (r cap : Nat) (hn : xs.length = r) (cols : Int) (hA : In w p A xs) (hr : r ≤ 1000) (hc : cols < 0) :
    Calls Try.prog 13 #[fptr (some p), .slice A r cap, .int .i64 cols] w (NewMF w p r 0 (powM xs)) := by
  have hl : ((r * 0 : Nat) : Int) ≤ 1000000000 := by
    have k1 : r * 0 ≤ 1000 * 1000 := Nat.mul_le_mul (by omega) (by omega)
    omega
  refine of_wide ?_
  refine callsIn_of_wp_marks Try.func13 rfl trivial ?_ rfl
  refine wpIn_wide.2 ?_
  simp only [Try.ntmps13, List.size_toArray, List.length_cons, List.length_nil, Nat.reduceAdd, Nat.reduceSub, Array.replicate_succ, Array.replicate_zero, List.push_toArray, List.append_toArray, List.nil_append, List.cons_append]
  obtain ⟨w1, h1, hb1, hs1, hw1⟩ := powI_start w p hp A r cap
  obtain ⟨gf, hgf⟩ : ∃ x, w.heap.size = x := ⟨_, rfl⟩
  rw [hgf] at h1
  have HW1 := Lib.hid hw1
  have H1 := Lib.hid (And.intro h1 (And.intro hb1 hs1))
  have HG := Lib.hid hgf
  have HA := Lib.hid hA
  have HP := Lib.hid hp
  have HRC := Lib.hid (show r ≤ 1000 ∧ 0 ≤ 1000 from by omega)
  have HN := Lib.hid (And.intro hn hl)
  have hlen : decide ((65536 : Int) < (r : Int)) = false := decide_eq_false (by omega)
  have hc1 : decide (cols < 0) = true := decide_eq_true hc
  clear hr hc
  clear hb1 hs1 hw1 hgf hA hp hn hl h1
  go_wp2_with fail
  rw [HW1.out, HG.out]
  refine (none_any w1 r 0 HN.out.2).mono ?_
  rintro e w2 ⟨g, rfl, ho, hb⟩
  have H2 := Lib.hid (And.intro (H1.out.1.keep hb) (And.intro (show Wm w2 w1.heap.size g (r * 0) r 0 (fun _ _ => 0) from ho) (show w1.heap.size ≤ w2.heap.size from hb.size)))
  clear ho hb hlen hc1
  go_wp2_with fail
  obtain ⟨w3, g7, h3, hw3, hg7⟩ := boxed w2 (mcells r 0 (some ⟨g, 0, none⟩) (0) (0))
  have HW3 := Lib.hid (show w2.alloc (.cells #[.int .i64 (r : Int), .int .i64 0, .slice (some ⟨g, 0, none⟩) (0) (0)] 27) = w3 from hw3)
  rw [HW3.out, hg7]
  have H3 := Lib.hid h3
  have HG7 := Lib.hid hg7
  clear hw3 h3 hg7
  refine (rows_any w3 _ _ _).mono ?_
  rintro e w4' ⟨rfl, rfl⟩
  obtain ⟨w4, bm, h4, hw4, hbm⟩ := boxed w3 (mcells r 0 (some ⟨g, 0, none⟩) (0) (0))
  have HW4 := Lib.hid (show w3.alloc (.cells #[.int .i64 (r : Int), .int .i64 0, .slice (some ⟨g, 0, none⟩) (0) (0)] 27) = w4 from hw4)
  rw [HW4.out, hbm]
  have hap : w.heap.size = gf ∧ w1.heap.size = gf + 3 ∧ w1.heap.size ≤ g ∧ g < g7 ∧ bm = g7 + 1 ∧ w4.heap.size = bm + 1 ∧ p < gf := by
    have k1 := H1.out.2.2; have k2 := H2.out.2.1.form; have k3 := HG7.out; have k4 := H3.out.2.2; have k5 := h4.2.2; have k6 := HP.out.lt; have k7 := HG.out
    omega
  have HAP := Lib.hid hap
  have HI0 := Lib.hid (show PowR w p gf (gf + 1) (gf + 1 + 1) g7 w1.heap.size g r 0 A r cap xs 0 0 w4 from ⟨(H2.out.1.keep H3.out.1).keep h4.1, H3.out.2.1.keep h4.1, ((H2.out.2.1.keep H3.out.1).keep h4.1).congr fun x _ k _ => by unfold powUp; rw [if_neg (by omega)]⟩)
  have H4 := Lib.hid h4
  clear hw4 hbm h4 hap
  go_wp2_with fail
  refine (wpIn_wide (n := 5)).1 ?_
  refine wpIn_rows bm r 0 (some ⟨g, 0, none⟩) (0) (0) rfl H4.out.2.1 (by have := HRC.out; omega) rfl HN.out.2 (Nat.le_refl _) (fun k => k = g ∨ k = p) (by have := HAP.out; omega)
    (fun i W => PowR w p gf (gf + 1) (gf + 1 + 1) g7 w1.heap.size g r 0 A r cap xs i 0 W) ?hI HI0.out ?hround ?hdone
  case hI =>
    intro i W W' h hf
    have hap := HAP.out
    exact h.fr_ hf (fun k e => by omega) HP.out.lt ⟨by omega, by omega, by omega, by omega, by omega⟩
  case hround =>
    intro l i W hi hlt
    have HLT := Lib.hid hlt
    obtain ⟨Y, hY⟩ : ∃ Y, rowA (some ⟨g, 0, none⟩) 0 i = Y := ⟨_, rfl⟩
    rw [hY]
    have HY := Lib.hid hY
    clear hlt hi hY
    gi_wp2
    refine ⟨trivial, fun W2 hi2 => ?_⟩
    have H := Lib.hid hi2
    clear hi2
    gi_wp2
    gi_loopw [42] (fun x wr => ∃ j : Nat, x = .int .i64 (j : Int) ∧ j ≤ 0 ∧ PowR w p gf (gf + 1) (gf + 1 + 1) g7 w1.heap.size g r 0 A r cap xs i j wr ∧ Fr (fun k => k = g ∨ k = p) W2 wr) (fun x _ => 0 - (intOf x).toNat)
    case atStart => exact ⟨0, rfl, Nat.zero_le _, H.out, Fr.refl _ _⟩
    case round =>
      obtain ⟨j, rfl, hj, h1, h2⟩ := hrel
      by_cases hjc : j < 0
      · omega
      · obtain rfl : j = 0 := by omega
        have HJ := Lib.hid (And.intro h1 h2)
        clear h1 h2 hj
        gi_wp2
        exact ⟨HJ.out.2, HJ.out.1.congr fun x _ k hk => by
          unfold powUp
          by_cases e : x < i ∨ x = i ∧ k < 0
          · rw [if_pos e, if_pos (by omega)]
          · rw [if_neg e, if_neg (by omega)]⟩
  case hdone =>
    intro D W hD hi hK
    have H := Lib.hid hi
    have HK := Lib.hid (And.intro hD hK)
    obtain ⟨⟨c0, c1, c2⟩, _⟩ := cells3 hi.var
    obtain ⟨⟨d0, d1, d2⟩, f0, f1, f2⟩ := cells3 hi.st.res
    obtain ⟨W3, hW3⟩ : ∃ x : World, ((W.setCell ⟨gf + 1 + 1, 0, none⟩ (.int .i64 (r : Int))).setCell ⟨gf + 1 + 1, 1, none⟩ (.int .i64 0)).setCell ⟨gf + 1 + 1, 2, none⟩ (.slice (some ⟨g, 0, none⟩) (0) (0)) = x := ⟨_, rfl⟩
    have h3 := set3 hi.st.res (.int .i64 (r : Int)) (.int .i64 0) (.slice (some ⟨g, 0, none⟩) (0) (0))
    rw [hW3] at h3
    have HW3 := Lib.hid hW3
    have HR := Lib.hid h3
    clear hi hK hD h3 hW3
    go_wp2_with fail
    rw [HW3.out]
    have hap := HAP.out
    have hd := HK.out.1
    have hKD : W3.heap[D]? = some (.deferred (some [])) := by
      have h1 := (Array.getElem?_eq_some_iff.1 HK.out.2).1
      rw [HR.out.2.block D h1 (by omega)]; exact HK.out.2
    have hst := shut_still (B := 0) (.deferred none) hKD rfl (Nat.zero_le _)
    obtain ⟨⟨e0, e1, e2⟩, _⟩ := cells3 (hst.blk HR.out.1)
    refine ⟨by simp, .inl ⟨_, _, rfl, run_takeDeferred hKD, ?_⟩⟩
    refine ⟨.agg #[.int .i64 (r : Int), .int .i64 0, .slice (some ⟨g, 0, none⟩) (0) (0)], ?_, ?_⟩
    · simp [results, Try.results13, go_sem, e0, e1, e2]
    · have hw := (H.out.row.fr HR.out.2 (by omega)).congr (m' := powM xs) fun x hx k _ => by unfold powUp; rw [if_pos (.inl hx)]
      refine ⟨some ⟨g, 0, none⟩, 0, rfl, Nat.le_refl _, ?_, ?_, ?_⟩
      · exact Nw.of_own (Own.down (Own.fr hw (put_fr (k := D) _) (fun g' e1 e2 => by injection e1 with e1; have := congrArg Addr.block e1; dsimp only at this; omega)) (by omega))
      · exact (H.out.st.fld.fr HR.out.2 (by omega)).fr (put_fr (k := D) _) (by omega)
      · exact (H.out.st.fr.trans HR.out.2 fun k hk e => absurd hk (by omega)).trans (put_fr (k := D) _) fun k hk e => absurd hk (by omega)
end Go.Proofs.Ythdapoipfnnaeaa.MxW
