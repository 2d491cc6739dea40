/- For ShareKnown: what its walk uses. -/
import Derived.Test.YtlmcmcafbepjmaaShLb
namespace Go.Proofs.Ytlmcmcafbepjmaa.ShW
open Go.RowKit Go.Shelf Mem Fds Bv Rng
set_option linter.unusedVariables false

def s1 : Sh := ⟨[97, 114, 109], 1099511627783, 9, [1, 2, 3, 4, 5]⟩
theorem s1_may : s1.may = true := by decide
theorem s1_len : s1.put.length = 26 := by rw [put_len]; rfl
def onec (gk gr : Nat) : Array Value := #[.slice (some ⟨gk, 0, none⟩) 3 3, .int .i64 1099511627783, .int .i64 9, .slice (some ⟨gr, 0, none⟩) 5 5]
/-- The example's share in its variable, its bytes. -/
structure Kst (w W : World) (gk gr bx : Nat) (A : Option Addr) (c : Nat) : Prop where
  below : Below w.heap.size w W
  box : Blk W bx 24 (onec gk gr)
  key : Bytes W W.heap.size (some ⟨gk, 0, none⟩) [97, 114, 109]
  row : Bytes W W.heap.size (some ⟨gr, 0, none⟩) [1, 2, 3, 4, 5]
  p : Bytes W W.heap.size A s1.put
  cap : 26 ≤ c ∧ c ≤ maxLen
theorem Kst.keep {w W W' : World} {gk gr bx c : Nat} {A : Option Addr} (h : Kst w W gk gr bx A c) (hb : Below W.heap.size W W') : Kst w W' gk gr bx A c := ⟨next h.below hb, h.box.keep hb, (h.key.below hb).up hb.size, (h.row.below hb).up hb.size, (h.p.below hb).up hb.size, h.cap⟩
theorem kst0 (w : World) : Below w.heap.size w (((w.alloc (.cells #[.int .u8 97, .int .u8 114, .int .u8 109] 5 (3, 4))).alloc (.cells #[.int .u8 1, .int .u8 2, .int .u8 3, .int .u8 4, .int .u8 5] 5)).alloc (.cells (onec w.heap.size (w.heap.size + 1)) 24)) ∧ Blk (((w.alloc (.cells #[.int .u8 97, .int .u8 114, .int .u8 109] 5 (3, 4))).alloc (.cells #[.int .u8 1, .int .u8 2, .int .u8 3, .int .u8 4, .int .u8 5] 5)).alloc (.cells (onec w.heap.size (w.heap.size + 1)) 24)) (w.heap.size + 1 + 1) 24 (onec w.heap.size (w.heap.size + 1)) ∧ Bytes (((w.alloc (.cells #[.int .u8 97, .int .u8 114, .int .u8 109] 5 (3, 4))).alloc (.cells #[.int .u8 1, .int .u8 2, .int .u8 3, .int .u8 4, .int .u8 5] 5)).alloc (.cells (onec w.heap.size (w.heap.size + 1)) 24)) (w.heap.size + 3) (some ⟨w.heap.size, 0, none⟩) [97, 114, 109] ∧ Bytes (((w.alloc (.cells #[.int .u8 97, .int .u8 114, .int .u8 109] 5 (3, 4))).alloc (.cells #[.int .u8 1, .int .u8 2, .int .u8 3, .int .u8 4, .int .u8 5] 5)).alloc (.cells (onec w.heap.size (w.heap.size + 1)) 24)) (w.heap.size + 3) (some ⟨w.heap.size + 1, 0, none⟩) [1, 2, 3, 4, 5] := by
  have h1 := Bytes.new w [97, 114, 109] 5 (3, 4) #[.int .u8 97, .int .u8 114, .int .u8 109] rfl (w.heap.size + 1) (by omega)
  have h2 := Bytes.new (w.alloc (.cells #[.int .u8 97, .int .u8 114, .int .u8 109] 5 (3, 4))) [1, 2, 3, 4, 5] 5 (0, 0) #[.int .u8 1, .int .u8 2, .int .u8 3, .int .u8 4, .int .u8 5] rfl (w.heap.size + 2) (by simp)
  have b1 := nextA (nextA (Mem.start (w.alloc (.cells #[.int .u8 97, .int .u8 114, .int .u8 109] 5 (3, 4)))) (.cells #[.int .u8 1, .int .u8 2, .int .u8 3, .int .u8 4, .int .u8 5] 5)) (.cells (onec w.heap.size (w.heap.size + 1)) 24)
  have b2 := nextA (Mem.start (((w.alloc (.cells #[.int .u8 97, .int .u8 114, .int .u8 109] 5 (3, 4))).alloc (.cells #[.int .u8 1, .int .u8 2, .int .u8 3, .int .u8 4, .int .u8 5] 5)))) (.cells (onec w.heap.size (w.heap.size + 1)) 24)
  have b3 := Blk.new (((w.alloc (.cells #[.int .u8 97, .int .u8 114, .int .u8 109] 5 (3, 4))).alloc (.cells #[.int .u8 1, .int .u8 2, .int .u8 3, .int .u8 4, .int .u8 5] 5))) 24 (onec w.heap.size (w.heap.size + 1))
  rw [World.size_alloc] at b1 h2
  rw [World.size_alloc, World.size_alloc] at b2 b3
  exact ⟨nextA (nextA (nextA (Mem.start w) _) _) _, b3, (h1.below b1).up (by omega), (h2.below b2).up (by omega)⟩
theorem ltr_sm {W : World} {s : Sh} {A B : Option Addr} {n m c d : Nat} {v e : Int} (h : Ltr W s A n v e B m) (hc : n ≤ c) (hcm : c ≤ maxLen) (hd : m ≤ d) (hdm : d ≤ maxLen) (hv : -9223372036854775808 ≤ v ∧ v ≤ 9223372036854775807) (he : -9223372036854775808 ≤ e ∧ e ≤ 9223372036854775807) :
    (⟨s, A, c, B, d⟩ : Sm).good W ∧ (⟨s, A, c, B, d⟩ : Sm).cells = #[.slice A n c, .int .i64 v, .int .i64 e, .slice B m d] := by
  obtain ⟨rfl, rfl, rfl, rfl, hk, hr⟩ := h
  exact ⟨⟨hk, hr, ⟨hc, hd⟩, ⟨hcm, hdm⟩, hv, he⟩, rfl⟩
/-- A share that may be handed in. -/
structure Arg (W : World) (s : Sh) (A : Option Addr) (n c : Nat) (v e : Int) (B : Option Addr) (m d : Nat) : Prop where
  l : Ltr W s A n v e B m
  c : n ≤ c ∧ c ≤ maxLen ∧ m ≤ d ∧ d ≤ maxLen
  v : -9223372036854775808 ≤ v ∧ v ≤ 9223372036854775807
  e : -9223372036854775808 ≤ e ∧ e ≤ 9223372036854775807
theorem Arg.keep {W W' : World} {s : Sh} {A : Option Addr} {n c : Nat} {v e : Int} {B : Option Addr} {m d : Nat} (h : Arg W s A n c v e B m d) (hb : Below W.heap.size W W') : Arg W' s A n c v e B m d := ⟨h.l.keep hb, h.c, h.v, h.e⟩
def True1 (W : World) (z : Ending) (w' : World) : Prop := z = .returned (.bool true) ∧ Below W.heap.size W w'
theorem putLawC {W : World} {s : Sh} {A : Option Addr} {n c : Nat} {v e : Int} {B : Option Addr} {m d : Nat} (h : Arg W s A n c v e B m d) : Calls Try.prog 3 #[.agg #[.slice A n c, .int .i64 v, .int .i64 e, .slice B m d]] W (True1 W) := by
  obtain ⟨h1, h2⟩ := ltr_sm h.l h.c.1 h.c.2.1 h.c.2.2.1 h.c.2.2.2 h.v h.e
  have := putLaw_any W _ h1
  rwa [h2] at this
theorem orderLawC {W : World} {s : Sh} {A : Option Addr} {n c : Nat} {v e : Int} {B : Option Addr} {m d : Nat} (h : Arg W s A n c v e B m d) {s' : Sh} {A' : Option Addr} {n' c' : Nat} {v' e' : Int} {B' : Option Addr} {m' d' : Nat} (h' : Arg W s' A' n' c' v' e' B' m' d') {s2 : Sh} {A2 : Option Addr} {n2 c2 : Nat} {v2 e2 : Int} {B2 : Option Addr} {m2 d2 : Nat} (h2 : Arg W s2 A2 n2 c2 v2 e2 B2 m2 d2) :
    Calls Try.prog 4 #[.agg #[.slice A n c, .int .i64 v, .int .i64 e, .slice B m d], .agg #[.slice A' n' c', .int .i64 v', .int .i64 e', .slice B' m' d'], .agg #[.slice A2 n2 c2, .int .i64 v2, .int .i64 e2, .slice B2 m2 d2]] W (True1 W) := by
  obtain ⟨g1, k1⟩ := ltr_sm h.l h.c.1 h.c.2.1 h.c.2.2.1 h.c.2.2.2 h.v h.e
  obtain ⟨g2, k2⟩ := ltr_sm h'.l h'.c.1 h'.c.2.1 h'.c.2.2.1 h'.c.2.2.2 h'.v h'.e
  obtain ⟨g3, k3⟩ := ltr_sm h2.l h2.c.1 h2.c.2.1 h2.c.2.2.1 h2.c.2.2.2 h2.v h2.e
  have := orderLaw_any W _ g1 _ g2 _ g3
  rwa [k1, k2, k3] at this
theorem backLawC {W : World} {s : Sh} {A : Option Addr} {n c : Nat} {v e : Int} {B : Option Addr} {m d : Nat} (h : Arg W s A n c v e B m d) (at_ : Int) (ha : -9223372036854775808 ≤ at_ ∧ at_ ≤ 9223372036854775807) (y : UInt8) (cut : Int) (hc : -9223372036854775808 ≤ cut ∧ cut ≤ 9223372036854775807) (D : Option Addr) (b : List UInt8) (nb db : Nat) (hn : b.length = nb) (hdb : nb ≤ db) (hdm : db ≤ maxLen) (hb : Bytes W W.heap.size D b) :
    Calls Try.prog 6 #[.agg #[.slice A n c, .int .i64 v, .int .i64 e, .slice B m d], .int .i64 at_, .int .u8 (y.toNat : Int), .int .i64 cut, .slice D nb db] W (True1 W) := by
  obtain ⟨h1, h2⟩ := ltr_sm h.l h.c.1 h.c.2.1 h.c.2.2.1 h.c.2.2.2 h.v h.e
  subst hn
  have := backLaw_any W _ h1 at_ ha y cut hc D b db hdb hdm hb
  rwa [h2] at this
theorem getLawC {W : World} (D : Option Addr) (b : List UInt8) (nb db : Nat) (hn : b.length = nb) (hdb : nb ≤ db) (hdm : db ≤ maxLen) (hb : Bytes W W.heap.size D b) : Calls Try.prog 5 #[.slice D nb db] W (True1 W) := by
  subst hn; exact getLaw_any W D b db hdb hdm hb
theorem Kst.arg {w W : World} {gk gr bx c : Nat} {A : Option Addr} (h : Kst w W gk gr bx A c) : Arg W s1 (some ⟨gk, 0, none⟩) 3 3 1099511627783 9 (some ⟨gr, 0, none⟩) 5 5 := ⟨⟨rfl, rfl, rfl, rfl, h.key, h.row⟩, by unfold maxLen; omega, by omega, by omega⟩
def bys : List UInt8 := [1, 2, 128, 255]
def nums : List Int := [-4611686018427387904, -1, 0, 1, 63, 64, 65, 254, 255, 256, 4611686018427387904]
theorem cells_nums (w : World) : Cells (w.alloc (.cells (nums.map (Value.int .i64)).toArray 3)) (w.alloc (.cells (nums.map (Value.int .i64)).toArray 3)).heap.size (some ⟨w.heap.size, 0, none⟩) (nums.map (Value.int .i64)) := fun _ =>
  ⟨w.heap.size, 0, rfl, by rw [World.size_alloc]; omega, fun j v hv => by rw [new_cell, Nat.zero_add, List.getElem?_toArray]; exact hv⟩
theorem nums_in : ∀ x ∈ nums, -9223372036854775808 ≤ x ∧ x ≤ 9223372036854775807 := by decide
theorem num_at {w : World} {B g j : Nat} (h : Cells w B (some ⟨g, 0, none⟩) (nums.map (Value.int .i64))) (hj : j < 11) : ∃ n : Int, w.cell? ⟨g, j, none⟩ = some (.int .i64 n) ∧ -9223372036854775808 ≤ n ∧ n ≤ 9223372036854775807 := by
  have hl : j < nums.length := hj
  obtain ⟨b, off, e, _, hc⟩ := h.at_ (k := j) (by rw [List.length_map]; exact hl)
  injection e with e; injection e with e1 e2; subst e1; subst e2
  rw [Nat.zero_add, List.getElem_map] at hc
  exact ⟨nums[j], hc, nums_in _ (List.getElem_mem hl)⟩
def u8z : Value := .int .u8 0
theorem zero_row (w : World) (n : Nat) : Bytes (w.alloc (.cells (Array.replicate n (.int .u8 0)) 5)) (w.heap.size + 1) (some ⟨w.heap.size, 0, none⟩) (List.replicate n 0) :=
  Bytes.new w (List.replicate n 0) 5 (0, 0) (Array.replicate n (.int .u8 0)) (by rw [Array.toList_replicate, List.map_replicate]; rfl) (w.heap.size + 1) (by omega)
theorem run_min90 (kn : Nat) (w : World) : (Builtin.min_ #[3, 3] 3 #[.int .i64 (kn : Int), .int .i64 90]).run Try.prog w = .ok (.int .i64 ((Nat.min kn 90 : Nat) : Int)) w := by
  by_cases h : kn ≤ 90
  · have e : Nat.min kn 90 = kn := Nat.min_eq_left h
    rw [e]
    simp [Builtin.min_, Builtin.min2]
    omega
  · have e : Nat.min kn 90 = 90 := Nat.min_eq_right (by omega)
    rw [e]
    simp [Builtin.min_, Builtin.min2]
    omega
/-- Bytes in a block that is none of those turned. -/
theorem bytes_blk {w w' : World} {B g x : Nat} {l : List UInt8} (h : Bytes w B (some ⟨g, 0, none⟩) l) (hf : Fr (fun k => k = x) w w') (hne : g = x → False) (hB : B ≤ w.heap.size) : Bytes w' B (some ⟨g, 0, none⟩) l := fun hl => by
  obtain ⟨b, off, e, hb, hc⟩ := h hl
  have e2 := e
  injection e2 with e2; injection e2 with e1 _
  subst e1
  exact ⟨g, off, e, hb, fun j v hv => (World.cell?_of_block (hf.block g (by omega) hne)).trans (hc j v hv)⟩
/-- Behind the second new row. -/
structure Two (w W : World) (gs gt gu ga km kn : Nat) (cs ct : Array Value) (v e : Int) (B : Value) : Prop where
  bs : Blk W gs 24 cs
  bt : Blk W gt 24 ct
  bu : Blk W gu 24 #[.slice (some ⟨ga, 0, none⟩) km km, .int .i64 v, .int .i64 e, B]
  fr : Fr (fun k => k = gu) w W
  z1 : Bytes W W.heap.size (some ⟨ga, 0, none⟩) (List.replicate km 0)
  z2 : Bytes W W.heap.size (some ⟨ga + 1, 0, none⟩) (List.replicate kn 0)
theorem second_row {wq wa : World} {ga gs gt gu : Nat} {K0 B : Value} {cs ct : Array Value} {v e : Int} {km0 : Nat} (hba : Below wq.heap.size wq wa) (hz : Bytes wa (ga + 1) (some ⟨ga, 0, none⟩) (List.replicate km0 0)) (hs : wa.heap.size = ga + 1) (hg : wq.heap.size = ga)
    (h1 : Blk wq gs 24 cs) (h2 : Blk wq gt 24 ct) (h3 : Blk wq gu 24 #[K0, .int .i64 v, .int .i64 e, B]) (n2 : gs ≠ gu) (n3 : gt ≠ gu) (l1 : gs < ga) (l2 : gt < ga) (l3 : gu < ga) (km kn : Nat) (hkm : km = km0 := by rfl) :
    Two wq ((wa.setCell ⟨gu, 0, none⟩ (.slice (some ⟨ga, 0, none⟩) km km)).alloc (.cells (Array.replicate kn (.int .u8 0)) 5)) gs gt gu ga km kn cs ct v e B := by
  subst hkm
  have hf1 : Fr (fun k => k = gu) wa (wa.setCell ⟨gu, 0, none⟩ (.slice (some ⟨ga, 0, none⟩) km km)) := Fr.setCell (p := ⟨gu, 0, none⟩) (Fr.refl (fun k => k = gu) wa) (fun _ => rfl) _
  have hz2 := zero_row (wa.setCell ⟨gu, 0, none⟩ (.slice (some ⟨ga, 0, none⟩) km km)) kn
  have hu := ((h3.keep hba).set_ 0 (.slice (some ⟨ga, 0, none⟩) km km)).alloc (.cells (Array.replicate kn (.int .u8 0)) 5)
  obtain ⟨wb, hwb⟩ : ∃ x : World, wa.setCell ⟨gu, 0, none⟩ (.slice (some ⟨ga, 0, none⟩) km km) = x := ⟨_, rfl⟩
  rw [hwb] at hf1 hz2 hu ⊢
  have hsb : wb.heap.size = ga + 1 := by rw [← hwb]; simpa using hs
  have hf2 : Fr (fun k => k = gu) wa (wb.alloc (.cells (Array.replicate kn (.int .u8 0)) 5)) := hf1.alloc _
  have hS : (wb.alloc (.cells (Array.replicate kn (.int .u8 0)) 5)).heap.size = ga + 2 := by rw [World.size_alloc, hsb]
  have hzz := bytes_blk hz hf2 (by omega) (by omega)
  rw [hsb] at hz2
  refine ⟨(h1.keep hba).fr hf2 n2, (h2.keep hba).fr hf2 n3, hu, (Fr.quiet hba).trans hf2 (fun i hi h => h), hzz.up (by omega), hz2.up (by omega)⟩
/-- One round's three shares. -/
structure Tst (w W : World) (gk gr bx : Nat) (A : Option Addr) (c gs gt gu : Nat) (n : Int) (gn : Nat) (s : Sh) (Au : Option Addr) (ku : Nat) (Bu : Option Addr) (mu : Nat) : Prop where
  k : Kst w W gk gr bx A c
  bs : Blk W gs 24 #[.slice (some ⟨gk, 0, none⟩) 3 3, .int .i64 n, .int .i64 9, .slice (some ⟨gr, 0, none⟩) 5 5]
  bt : Blk W gt 24 #[.slice (some ⟨gk, 0, none⟩) 3 3, .int .i64 1099511627783, .int .i64 n, .slice (some ⟨gr, 0, none⟩) 5 5]
  bu : Blk W gu 24 #[.slice Au ku ku, .int .i64 1099511627783, .int .i64 9, .slice Bu mu mu]
  au : Arg W s Au ku ku 1099511627783 9 Bu mu mu
  n : -9223372036854775808 ≤ n ∧ n ≤ 9223372036854775807
  nums : Cells W W.heap.size (some ⟨gn, 0, none⟩) (nums.map (Value.int .i64))
theorem Tst.keep {w W W' : World} {gk gr bx : Nat} {A : Option Addr} {c gs gt gu : Nat} {n : Int} {gn : Nat} {s : Sh} {Au : Option Addr} {ku : Nat} {Bu : Option Addr} {mu : Nat} (h : Tst w W gk gr bx A c gs gt gu n gn s Au ku Bu mu) (hb : Below W.heap.size W W') : Tst w W' gk gr bx A c gs gt gu n gn s Au ku Bu mu :=
  ⟨h.k.keep hb, h.bs.keep hb, h.bt.keep hb, h.bu.keep hb, h.au.keep hb, h.n, (h.nums.below hb).up hb.size⟩
theorem Tst.as {w W : World} {gk gr bx : Nat} {A : Option Addr} {c gs gt gu : Nat} {n : Int} {gn : Nat} {s : Sh} {Au : Option Addr} {ku : Nat} {Bu : Option Addr} {mu : Nat} (h : Tst w W gk gr bx A c gs gt gu n gn s Au ku Bu mu) : Arg W ⟨[97, 114, 109], n, 9, [1, 2, 3, 4, 5]⟩ (some ⟨gk, 0, none⟩) 3 3 n 9 (some ⟨gr, 0, none⟩) 5 5 :=
  ⟨⟨rfl, rfl, rfl, rfl, h.k.key, h.k.row⟩, by unfold maxLen; omega, h.n, by omega⟩
theorem Tst.at_ {w W : World} {gk gr bx : Nat} {A : Option Addr} {c gs gt gu : Nat} {n : Int} {gn : Nat} {s : Sh} {Au : Option Addr} {ku : Nat} {Bu : Option Addr} {mu : Nat} (h : Tst w W gk gr bx A c gs gt gu n gn s Au ku Bu mu) : Arg W ⟨[97, 114, 109], 1099511627783, n, [1, 2, 3, 4, 5]⟩ (some ⟨gk, 0, none⟩) 3 3 1099511627783 n (some ⟨gr, 0, none⟩) 5 5 :=
  ⟨⟨rfl, rfl, rfl, rfl, h.k.key, h.k.row⟩, by unfold maxLen; omega, by omega, h.n⟩
def zs (n : Nat) : List UInt8 := List.replicate n 0
theorem zs_len (n : Nat) : (zs n).length = n := List.length_replicate
theorem zs_take {n m : Nat} (h : n ≤ m) : (zs m).take n = zs n := by unfold zs; rw [List.take_replicate, Nat.min_eq_left h]
/-- The share with a long row. -/
def bg (n : Nat) : Sh := ⟨[97, 114, 109], 1099511627783, 9, zs n⟩
theorem bg_may (n : Nat) : (bg n).may = decide (n ≤ 65536) := by
  unfold bg Sh.may
  simp only [zs_len]
  by_cases h : n ≤ 65536
  · rw [decide_eq_true h]; exact decide_eq_true ⟨by decide, by decide, by decide, by decide, by decide, h⟩
  · rw [decide_eq_false h]; exact decide_eq_false fun h' => h h'.2.2.2.2.2
theorem bg_len (n : Nat) : (bg n).put.length = 21 + n := by
  rw [put_len]
  show 18 + 3 + (zs n).length = _
  rw [zs_len]
/-- While the share with a long row is there. -/
structure Big (w W : World) (gk gr bx : Nat) (A : Option Addr) (c gb gz n : Nat) : Prop where
  k : Kst w W gk gr bx A c
  b : Blk W gb 24 #[.slice (some ⟨gk, 0, none⟩) 3 3, .int .i64 1099511627783, .int .i64 9, .slice (some ⟨gz, 0, none⟩) n 65537]
  z : Bytes W W.heap.size (some ⟨gz, 0, none⟩) (zs 65537)
theorem Big.keep {w W W' : World} {gk gr bx : Nat} {A : Option Addr} {c gb gz n : Nat} (h : Big w W gk gr bx A c gb gz n) (hb : Below W.heap.size W W') : Big w W' gk gr bx A c gb gz n := ⟨h.k.keep hb, h.b.keep hb, (h.z.below hb).up hb.size⟩
theorem Big.ltr {w W : World} {gk gr bx : Nat} {A : Option Addr} {c gb gz n : Nat} (h : Big w W gk gr bx A c gb gz n) (hn : n ≤ 65537) : Ltr W (bg n) (some ⟨gk, 0, none⟩) 3 1099511627783 9 (some ⟨gz, 0, none⟩) n :=
  ⟨rfl, zs_len n, rfl, rfl, h.k.key, by have := h.z.take n; rwa [zs_take hn] at this⟩
/-- What make leaves, and the store. -/
theorem big_start {w w20 w21 : World} {gk gr bx : Nat} {A : Option Addr} {c gb gz : Nat} (h : Kst w w20 gk gr bx A c) (hw : w20.alloc (.cells (onec gk gr) 24) = w21) (hgb : w20.heap.size = gb) (hgz : w21.heap.size = gz) :
    Kst w w21 gk gr bx A c ∧ Blk w21 gb 24 (onec gk gr) ∧ Blk (w21.alloc (.cells (Array.replicate 65537 (.int .u8 0)) 5)) gb 24 (onec gk gr) ∧
      Big w ((w21.alloc (.cells (Array.replicate 65537 (.int .u8 0)) 5)).setCell ⟨gb, 3, none⟩ (.slice (some ⟨gz, 0, none⟩) 65537 65537)) gk gr bx A c gb gz 65537 := by
  have hb1 : Below w20.heap.size w20 w21 := by rw [← hw]; exact nextA (Mem.start w20) _
  have hB : Blk w21 gb 24 (onec gk gr) := by rw [← hw, ← hgb]; exact Blk.new w20 _ _
  have hz := zero_row w21 65537
  have hlt := hB.lt
  have hs1 := hb1.size
  have hb2 : Below w21.heap.size w21 (w21.alloc (.cells (Array.replicate 65537 (.int .u8 0)) 5)) := nextA (Mem.start w21) _
  have hB2 := hB.keep hb2
  have hz3 : Bytes (w21.alloc (.cells (Array.replicate 65537 (.int .u8 0)) 5)) (w21.alloc (.cells (Array.replicate 65537 (.int .u8 0)) 5)).heap.size (some ⟨gz, 0, none⟩) (zs 65537) := by rw [World.size_alloc, ← hgz]; exact hz
  refine ⟨h.keep hb1, hB, hB2, ?_⟩
  obtain ⟨w22, hw22⟩ : ∃ x : World, w21.alloc (.cells (Array.replicate 65537 (.int .u8 0)) 5) = x := ⟨_, rfl⟩
  rw [hw22] at hB2 hz3 hb2 ⊢
  have hf : Fr (fun k => k = gb) w22 (w22.setCell ⟨gb, 3, none⟩ (.slice (some ⟨gz, 0, none⟩) 65537 65537)) := Fr.setCell (p := ⟨gb, 3, none⟩) (Fr.refl (fun k => k = gb) w22) (fun _ => rfl) _
  have hbb : Below w20.heap.size w20 (w22.setCell ⟨gb, 3, none⟩ (.slice (some ⟨gz, 0, none⟩) 65537 65537)) := (hb1.trans (hb2.mono hs1)).trans (hf.below (Nat.le_trans hs1 hb2.size) (fun q e => by rw [e, hgb]; exact Nat.le_refl _))
  refine ⟨h.keep hbb, hB2.set_ 3 _, Bytes.up (bytes_blk hz3 hf (fun e => ?_) (Nat.le_refl _)) hf.size⟩
  rw [e] at hgz
  rw [hgz] at hlt
  exact Nat.lt_irrefl _ hlt
theorem big_cut {w W : World} {gk gr bx : Nat} {A : Option Addr} {c gb gz n : Nat} (h : Big w W gk gr bx A c gb gz n) (hle : w.heap.size ≤ gb) (hk : gb ≠ gk ∧ gb ≠ gr ∧ gb ≠ bx ∧ gb ≠ gz) (hA : ∀ a, A = some a → a.block ≠ gb) (m : Nat) :
    Big w (W.setCell ⟨gb, 3, none⟩ (.slice (some ⟨gz, 0, none⟩) m 65537)) gk gr bx A c gb gz m := by
  have hf : Fr (fun k => k = gb) W (W.setCell ⟨gb, 3, none⟩ (.slice (some ⟨gz, 0, none⟩) m 65537)) := Fr.setCell (p := ⟨gb, 3, none⟩) (Fr.refl (fun k => k = gb) W) (fun _ => rfl) _
  have hbb := hf.below (B := w.heap.size) h.k.below.size (fun q e => by rw [e]; exact hle)
  refine ⟨⟨h.k.below.trans hbb, h.k.box.fr hf (Ne.symm hk.2.2.1), Bytes.up (bytes_blk h.k.key hf (fun e => hk.1 e.symm) (Nat.le_refl _)) hf.size, Bytes.up (bytes_blk h.k.row hf (fun e => hk.2.1 e.symm) (Nat.le_refl _)) hf.size, ?_, h.k.cap⟩, h.b.set_ 3 _, Bytes.up (bytes_blk h.z hf (fun e => hk.2.2.2 e.symm) (Nat.le_refl _)) hf.size⟩
  intro hl
  obtain ⟨b, off, e, hb, hc⟩ := h.k.p hl
  have := hA _ e
  exact ⟨b, off, e, Nat.lt_of_lt_of_le hb hf.size, fun j v hv => (World.cell?_of_block (hf.block b hb this)).trans (hc j v hv)⟩
theorem bytes_lt {W : World} {B : Nat} {a : Addr} {l : List UInt8} (h : Bytes W B (some a) l) (hl : 0 < l.length) : a.block < B := by
  obtain ⟨b, off, e, hb, _⟩ := h (by rw [List.length_map]; exact hl)
  injection e with e; subst e; exact hb
theorem kst_apart {w W : World} {gk gr bx : Nat} {A : Option Addr} {c gb gz : Nat} (h : Kst w W gk gr bx A c) (hgb : W.heap.size = gb) (hgz : gz = gb + 1) : w.heap.size ≤ gb ∧ (gb ≠ gk ∧ gb ≠ gr ∧ gb ≠ bx ∧ gb ≠ gz) ∧ ∀ a, A = some a → a.block ≠ gb := by
  have h1 : gk < W.heap.size := bytes_lt h.key (by decide)
  have h2 : gr < W.heap.size := bytes_lt h.row (by decide)
  have h3 := h.box.lt
  refine ⟨by rw [← hgb]; exact h.below.size, ⟨by omega, by omega, by omega, by omega⟩, fun a ha => ?_⟩
  subst ha
  have := bytes_lt h.p (by rw [s1_len]; omega)
  omega
end Go.Proofs.Ytlmcmcafbepjmaa.ShW
