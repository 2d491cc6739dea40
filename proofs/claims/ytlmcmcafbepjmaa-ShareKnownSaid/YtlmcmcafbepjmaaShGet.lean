/- share.Get: bytes are a share, or none. -/
import Derived.Test.YtlmcmcafbepjmaaShGm
import Derived.Test.YtlmcmcafbepjmaaShCl
import Derived.Test.YtlmcmcafbepjmaaShLp
namespace Go.Proofs.Ytlmcmcafbepjmaa.ShW
open Go.RowKit Go.Shelf Mem Fds Bv FdW Rng
set_option linter.unusedVariables false

def zsh : Array Value := #[.slice none 0 0, .int .i64 0, .int .i64 0, .slice none 0 0]
/-- What Get leaves. -/
def GetS (w : World) (b : List UInt8) (e : Ending) (w' : World) : Prop :=
  ((∃ s A c B d, isShare b s ∧ e = .returned (.tuple #[.agg #[.slice A s.key.length c, .int .i64 s.ver, .int .i64 s.node, .slice B s.row.length d], .int .i64 0]) ∧ Mem.Own w' w.heap.size 5 A c (s.key.map u8v) ∧ Mem.Own w' w.heap.size 5 B d (s.row.map u8v)) ∨ ((∀ s, ¬ isShare b s) ∧ e = .returned (.tuple #[.agg zsh, .int .i64 160]))) ∧ Below w.heap.size w w'
/-- While Get goes on: its variables r0 (the answer), g (the share), the reader p. -/
structure Gst (w W : World) (l : List UInt8) (p k : Nat) (f : Bool) (g : Nat) (cs : Array Value) : Prop where
  below : Below w.heap.size w W
  r0 : Blk W w.heap.size 24 zsh
  rd : HasR (w.heap.size + 1) p l k f W
  var : Blk W g 24 cs
  ne : p ≠ g
  lt : w.heap.size < g
section
variable {w W W' : World} {l : List UInt8} {p k k' : Nat} {f f' : Bool} {g : Nat} {cs : Array Value}
theorem Gst.read (h : Gst w W l p k f g cs) (hr : HasR (w.heap.size + 1) p l k' f' W') (hf : Fr (fun i => i = p) W W') : Gst w W' l p k' f' g cs := by
  have hp := h.rd.at_
  exact ⟨h.below.trans (hf.below h.below.size (fun q e => by omega)), h.r0.fr hf (fun e => by omega), hr, h.var.fr hf (fun e => h.ne e.symm), h.ne, h.lt⟩
theorem Gst.keep (h : Gst w W l p k f g cs) (hb : Below W.heap.size W W') : Gst w W' l p k f g cs :=
  ⟨next h.below hb, h.r0.keep hb, h.rd.keep hb, h.var.keep hb, h.ne, h.lt⟩
theorem Gst.set (h : Gst w W l p k f g cs) (i : Nat) (v : Value) : Gst w (W.setCell ⟨g, i, none⟩ v) l p k f g (cs.setIfInBounds i v) := by
  have hf : Fr (fun j => j = g) W (W.setCell ⟨g, i, none⟩ v) := Fr.setCell (p := ⟨g, i, none⟩) (Fr.refl (fun j => j = g) W) (fun _ => rfl) v
  exact ⟨h.below.setCell (p := ⟨g, i, none⟩) (Nat.le_of_lt h.lt) v, h.r0.fr hf (fun e => by have := h.lt; omega), h.rd.other hf h.var (by decide) h.ne, h.var.set_ i v, h.ne, h.lt⟩
theorem own_read {base : Nat} {A : Option Addr} {c : Nat} {xs : List Value} (h : Gst w W l p k f g cs) (ho : Mem.Own W base 5 A c xs) (hf : Fr (fun i => i = p) W W') : Mem.Own W' base 5 A c xs := by
  obtain ⟨cs', hb⟩ := h.rd.blk
  exact ho.fr hf fun q hq e => hb.ne_own ho (by decide) q hq e
theorem own_set {base : Nat} {A : Option Addr} {c : Nat} {xs : List Value} (h : Gst w W l p k f g cs) (ho : Mem.Own W base 5 A c xs) (i : Nat) (v : Value) : Mem.Own (W.setCell ⟨g, i, none⟩ v) base 5 A c xs :=
  ho.set_far (p := ⟨g, i, none⟩) (fun q hq e => h.var.ne_own ho (by decide) q hq e.symm)
end
theorem n1_lt (l : List UInt8) : n1 l < 256 := by
  have h := num_lt (got l 0 false 1)
  have : (got l 0 false 1).length ≤ 1 := by unfold got; split <;> simp; omega
  exact Nat.lt_of_lt_of_le h (Nat.pow_le_pow_right (by decide) this)
theorem gver_lt (l : List UInt8) : gver l < 256 ^ 8 := by
  have h := num_lt (got l (k2 l) (f2 l) 8)
  have : (got l (k2 l) (f2 l) 8).length ≤ 8 := by unfold got; split <;> simp; omega
  exact Nat.lt_of_lt_of_le h (Nat.pow_le_pow_right (by decide) this)
theorem gnode_lt (l : List UInt8) : gnode l < 256 := by
  have h := num_lt (got l (k3 l) (f3 l) 1)
  have : (got l (k3 l) (f3 l) 1).length ≤ 1 := by unfold got; split <;> simp; omega
  exact Nat.lt_of_lt_of_le h (Nat.pow_le_pow_right (by decide) this)
theorem n5_lt (l : List UInt8) : n5 l < 256 ^ 4 := by
  have h := num_lt (got l (k4 l) (f4 l) 4)
  have : (got l (k4 l) (f4 l) 4).length ≤ 4 := by unfold got; split <;> simp; omega
  exact Nat.lt_of_lt_of_le h (Nat.pow_le_pow_right (by decide) this)
theorem sgn_wrap (n : Nat) (h : n < 256 ^ 8) : IntKind.i64.wrap (n : Int) = sgn n := by
  have h : n < 18446744073709551616 := h
  rw [IntKind.wrap_i64]
  unfold sgn
  split <;> omega
theorem share_len {b : List UInt8} {s : Sh} (h : isShare b s) : 18 ≤ b.length := by have := put_len s; rw [h.2.1] at this; omega
set_option maxRecDepth 100000 in
set_option maxHeartbeats 8000000 in
theorem get_short (w : World) (A : Option Addr) (b : List UInt8) (n c : Nat) (hn : b.length = n) (h4 : n < 4) (hA : Bytes w w.heap.size A b) : Calls Try.prog 20 #[.slice A n c] w (GetS w b) := by
  have hno : ∀ s, ¬ isShare b s := fun s h => by have := share_len h; omega
  have HNO := Lib.hid hno
  have h4i : (n : Int) < 4 := by omega
  clear hno hA hn h4
  have HB := Lib.hid (nextA (Mem.start w) (.cells zsh 24))
  go_enter Try.func20, Try.ntmps20
  go_wp2_with fail
  refine bodyPost_ret (v := .tuple #[.agg zsh, .int .i64 160]) (by simp [results, Try.results20, go_sem, zsh]) rfl ⟨.inr ⟨HNO.out, rfl⟩, HB.out⟩
section
variable {w W : World} {l : List UInt8} {p g : Nat} {cs : Array Value}
def RdS (w W : World) (l : List UInt8) (p k : Nat) (f : Bool) (g : Nat) (cs : Array Value) (kd : IntKind) (v : Nat) (e : Ending) (w' : World) : Prop :=
  e = .returned (.int kd (v : Int)) ∧ Gst w w' l p k f g cs ∧ Fr (fun i => i = p) W w'
def RwS (w W : World) (l : List UInt8) (p k : Nat) (f : Bool) (g : Nat) (cs : Array Value) (x : List UInt8) (e : Ending) (w' : World) : Prop :=
  ∃ A c, e = .returned (.slice A x.length c) ∧ Bytes w' w'.heap.size A x ∧ Gst w w' l p k f g cs ∧ Fr (fun i => i = p) W w'
theorem rd1 (h : Gst w W l p 0 false g cs) : Calls Try.prog 44 #[.pointer (some ⟨p, 0, none⟩)] W (RdS w W l p (k1 l) (f1 l) g cs .u8 (n1 l)) :=
  (rbyte_has h.rd).mono fun e w' ⟨he, hr, hf⟩ => ⟨he, h.read hr hf, hf⟩
theorem rd2 (h : Gst w W l p (k1 l) (f1 l) g cs) : Calls Try.prog 43 #[.pointer (some ⟨p, 0, none⟩), .int .i64 (n1 l : Int)] W (RwS w W l p (k2 l) (f2 l) g cs (gkey l)) :=
  (rraw_has (n1 l : Int) h.rd).mono fun e w' ⟨A, c, he, ho, hr, hf⟩ => ⟨A, c, he, Mem.Own.bytes ho, h.read hr hf, hf⟩
theorem rd3 (h : Gst w W l p (k2 l) (f2 l) g cs) : Calls Try.prog 45 #[.pointer (some ⟨p, 0, none⟩)] W (RdS w W l p (k3 l) (f3 l) g cs .u64 (gver l)) :=
  (rlong_has h.rd).mono fun e w' ⟨he, hr, hf⟩ => ⟨he, h.read hr hf, hf⟩
theorem rd4 (h : Gst w W l p (k3 l) (f3 l) g cs) : Calls Try.prog 44 #[.pointer (some ⟨p, 0, none⟩)] W (RdS w W l p (k4 l) (f4 l) g cs .u8 (gnode l)) :=
  (rbyte_has h.rd).mono fun e w' ⟨he, hr, hf⟩ => ⟨he, h.read hr hf, hf⟩
theorem rd5 (h : Gst w W l p (k4 l) (f4 l) g cs) : Calls Try.prog 46 #[.pointer (some ⟨p, 0, none⟩)] W (RdS w W l p (k5 l) (f5 l) g cs .u32 (n5 l)) :=
  (rword_has h.rd).mono fun e w' ⟨he, hr, hf⟩ => ⟨he, h.read hr hf, hf⟩
theorem rd6 (h : Gst w W l p (k5 l) (f5 l) g cs) : Calls Try.prog 43 #[.pointer (some ⟨p, 0, none⟩), .int .i64 (n5 l : Int)] W (RwS w W l p (k6 l) (f6 l) g cs (grow l)) :=
  (rraw_has (n5 l : Int) h.rd).mono fun e w' ⟨A, c, he, ho, hr, hf⟩ => ⟨A, c, he, Mem.Own.bytes ho, h.read hr hf, hf⟩
theorem got_len (l : List UInt8) (k : Nat) (f : Bool) (n : Int) : (got l k f n).length ≤ l.length := by unfold got; split <;> simp; omega
end
theorem own_far4 {w : World} {base c g : Nat} {A : Option Addr} {xs : List Value} {cs : Array Value} (h : Mem.Own w base 5 A c xs) (hB : Blk w g 24 cs) (v0 v1 v2 v3 : Value) : Mem.Own ((((w.setCell ⟨g, 0, none⟩ v0).setCell ⟨g, 1, none⟩ v1).setCell ⟨g, 2, none⟩ v2).setCell ⟨g, 3, none⟩ v3) base 5 A c xs :=
  (((h.set_far (p := ⟨g, 0, none⟩) (fun q hq e => hB.ne_own h (by decide) q hq e.symm)).set_far (p := ⟨g, 1, none⟩) (fun q hq e => hB.ne_own h (by decide) q hq e.symm)).set_far (p := ⟨g, 2, none⟩) (fun q hq e => hB.ne_own h (by decide) q hq e.symm)).set_far (p := ⟨g, 3, none⟩) (fun q hq e => hB.ne_own h (by decide) q hq e.symm)
/-- What is known behind the reading. -/
structure Gend (w W : World) (l : List UInt8) (p g : Nat) (A B : Option Addr) (c d : Nat) : Prop where
  st : Gst w W l p (k6 l) (f6 l) g #[.slice A (gkey l).length c, .int .i64 (sgn (gver l)), .int .i64 (gnode l : Int), .slice B (grow l).length d]
  key : Mem.Own W w.heap.size 5 A c ((gkey l).map u8v)
  row : Mem.Own W w.heap.size 5 B d ((grow l).map u8v)
set_option maxRecDepth 100000 in
set_option maxHeartbeats 8000000 in
theorem get_long (w : World) (A : Option Addr) (b : List UInt8) (n c : Nat) (hn : b.length = n) (h4 : 4 ≤ n) (hmx : n ≤ 2 * 256 ^ 2) (hcap : n ≤ c) (hA0 : Bytes w w.heap.size A b) : Calls Try.prog 20 #[.slice A n c] w (GetS w b) := by
  obtain ⟨ab, off, rfl, hab⟩ : ∃ ab off, A = some ⟨ab, off, none⟩ ∧ ab < w.heap.size := by obtain ⟨b', off, h, h', _⟩ := hA0 (by rw [List.length_map]; omega); exact ⟨b', off, h, h'⟩
  have hA := hA0
  clear hA0 hab
  obtain ⟨e, rfl⟩ : ∃ e, n = e + 4 := ⟨n - 4, by omega⟩
  obtain ⟨l, hl⟩ : ∃ l, b.take e = l := ⟨_, rfl⟩
  obtain ⟨t, ht⟩ : ∃ t, b.drop e = t := ⟨_, rfl⟩
  have hb : b = l ++ t := by rw [← hl, ← ht, List.take_append_drop]
  have hll : l.length = e := by rw [← hl, List.length_take]; omega
  have htl : t.length = 4 := by rw [← ht, List.length_drop]; omega
  have hi1 : ((e + 4 : Nat) : Int) - 4 = (e : Int) := by omega
  have hi2 : wrap64 (e : Int) = (e : Int) := by unfold wrap64; omega
  have hi3 : (e : Int) ≤ (c : Int) := by omega
  have HE := Lib.hid (And.intro hb (And.intro hll (And.intro htl (And.intro hmx trivial))))
  have HA := Lib.hid hA
  have HLA := Lib.hid (show Bytes w w.heap.size (some ⟨ab, off, none⟩) l from by rw [← hl]; exact hA.take e)
  have HTA := Lib.hid (show Bytes w w.heap.size (some ⟨ab, off + e, none⟩) t from by rw [← ht]; exact hA.drop e)
  have hi4 : (e : Int) ≤ (e : Int) + 4 := by omega
  have hce : ¬ (c = e) := by omega
  obtain ⟨w1, hw1⟩ : ∃ x : World, w.alloc (.cells zsh 24) = x := ⟨_, rfl⟩
  have H1 := Lib.hid (show Below w.heap.size w w1 ∧ Blk w1 w.heap.size 24 zsh ∧ w1.heap.size = w.heap.size + 1 from by rw [← hw1]; exact ⟨nextA (Mem.start w) _, Blk.new w _ _, World.size_alloc _ _⟩)
  have HW1 := Lib.hid hw1
  clear hn h4 hmx hA hl ht hb hll htl hw1
  go_enter Try.func20, Try.ntmps20
  go_wp2_with fail
  rw [show w.alloc (.cells #[Value.slice none 0 0, Value.int IntKind.i64 0, Value.int IntKind.i64 0, Value.slice none 0 0] 24) = w1 from HW1.out]
  refine (open_has w1 _ l e c HE.out.2.1.symm (by have := HE.out.2.2.2.1; omega) ((HLA.out.below H1.out.1).up H1.out.1.size)).mono ?_
  rintro z w2 ⟨p, rfl, hr, hb⟩
  rw [H1.out.2.2] at hr
  obtain ⟨w3, hw3⟩ : ∃ x : World, w2.alloc (.cells zsh 24) = x := ⟨_, rfl⟩
  have h23 : Below w2.heap.size w2 w3 := by rw [← hw3]; exact nextA (Mem.start w2) _
  obtain ⟨g, hg⟩ : ∃ g, w2.heap.size = g := ⟨_, rfl⟩
  have hG : Gst w w3 l p 0 false g zsh := ⟨next (next H1.out.1 hb) h23, (H1.out.2.1.keep hb).keep h23, hr.keep h23, by rw [← hw3, ← hg]; exact Blk.new w2 _ _, by have := hr.lt; omega, by have h1 := hb.size; have h2 := H1.out.2.2; omega⟩
  have H3 := Lib.hid hG
  have HW3 := Lib.hid hw3
  have n1l := n1_lt l
  have i1 : ((n1 l : Nat) : Int) < 256 := by omega
  obtain ⟨v1, hv1⟩ : ∃ v, n1 l = v := ⟨_, rfl⟩
  have HV1 := Lib.hid hv1
  rw [hv1] at i1
  clear hr hb h23 hw3 hG n1l hv1
  go_wp2_with fail
  rw [show w2.alloc (.cells #[Value.slice none 0 0, Value.int IntKind.i64 0, Value.int IntKind.i64 0, Value.slice none 0 0] 24) = w3 from HW3.out]
  refine (rd1 H3.out).mono ?_
  rintro z w4 ⟨rfl, hG, hf⟩
  rw [HV1.out]
  have H4 := Lib.hid hG
  clear hG hf hg
  go_wp2_with fail
  have hp := rd2 H4.out
  rw [HV1.out] at hp
  refine hp.mono ?_
  clear hp
  rintro z w5 ⟨AK, ck, rfl, hB, hG, hf⟩
  have H5 := Lib.hid (And.intro hG hB)
  have HLK := Lib.hid (show (gkey l).length ≤ 100000000 from by have h1 := got_len l (k1 l) (f1 l) (n1 l); have h2 := HE.out.2.1; have h3 := HE.out.2.2.2.1; unfold gkey; omega)
  clear hG hB hf
  go_wp2_with fail
  refine (bclone_any w5 AK (gkey l) _ ck rfl HLK.out H5.out.2).mono ?_
  rintro z w6 ⟨A1, c1, rfl, ho, hb⟩
  have hG := H5.out.1.keep hb
  have H6 := Lib.hid (And.intro hG (ho.down H5.out.1.below.size))
  have c0 := hG.var.cell 0
  have z0 := hG.var.frozen 0
  simp [zsh] at c0
  clear ho hb hG
  have i3 := gver_lt l
  have iv := sgn_wrap _ i3
  obtain ⟨v3, hv3⟩ : ∃ v, gver l = v := ⟨_, rfl⟩
  have HV3 := Lib.hid hv3
  rw [hv3] at iv
  obtain ⟨kl, hkl⟩ : ∃ x, (gkey l).length = x := ⟨_, rfl⟩
  have HKL := Lib.hid hkl
  rw [hkl]
  clear hv3 i3 hkl
  go_wp2_with fail
  have H7 := Lib.hid (show Gst w (w6.setCell ⟨g, 0, none⟩ (.slice A1 kl c1)) l p (k2 l) (f2 l) g #[.slice A1 kl c1, .int .i64 0, .int .i64 0, .slice none 0 0] ∧ Mem.Own (w6.setCell ⟨g, 0, none⟩ (.slice A1 kl c1)) w.heap.size 5 A1 c1 ((gkey l).map u8v) from ⟨H6.out.1.set 0 _, own_set H6.out.1 H6.out.2 0 _⟩)
  clear c0 z0
  obtain ⟨w7, hw7⟩ : ∃ x : World, w6.setCell ⟨g, 0, none⟩ (.slice A1 kl c1) = x := ⟨_, rfl⟩
  rw [hw7] at H7 ⊢
  clear hw7
  refine (rd3 H7.out.1).mono ?_
  rintro z w8 ⟨rfl, hG, hf⟩
  rw [HV3.out]
  have H8 := Lib.hid (And.intro hG (own_read H7.out.1 H7.out.2 hf))
  have c1' := hG.var.cell 1
  have z1 := hG.var.frozen 1
  simp at c1'
  clear hG hf
  have i4 := gnode_lt l
  obtain ⟨v4, hv4⟩ : ∃ v, gnode l = v := ⟨_, rfl⟩
  have HV4 := Lib.hid hv4
  have i4 : ((gnode l : Nat) : Int) < 256 := by omega
  rw [hv4] at i4
  clear hv4
  go_wp2_with fail
  have H9 := Lib.hid (show Gst w (w8.setCell ⟨g, 1, none⟩ (.int .i64 (sgn v3))) l p (k3 l) (f3 l) g #[.slice A1 kl c1, .int .i64 (sgn v3), .int .i64 0, .slice none 0 0] ∧ Mem.Own (w8.setCell ⟨g, 1, none⟩ (.int .i64 (sgn v3))) w.heap.size 5 A1 c1 ((gkey l).map u8v) from ⟨H8.out.1.set 1 _, own_set H8.out.1 H8.out.2 1 _⟩)
  clear c1' z1 iv
  obtain ⟨w9, hw9⟩ : ∃ x : World, w8.setCell ⟨g, 1, none⟩ (.int .i64 (sgn v3)) = x := ⟨_, rfl⟩
  rw [hw9] at H9 ⊢
  clear hw9
  refine (rd4 H9.out.1).mono ?_
  rintro z w10 ⟨rfl, hG, hf⟩
  rw [HV4.out]
  have H10 := Lib.hid (And.intro hG (own_read H9.out.1 H9.out.2 hf))
  have c2' := hG.var.cell 2
  have z2 := hG.var.frozen 2
  simp at c2'
  clear hG hf
  have i5 : ((n5 l : Nat) : Int) < 256 ^ 4 := by have := n5_lt l; omega
  obtain ⟨v5, hv5⟩ : ∃ v, n5 l = v := ⟨_, rfl⟩
  have HV5 := Lib.hid hv5
  rw [hv5] at i5
  clear hv5
  go_wp2_with fail
  have H11 := Lib.hid (show Gst w (w10.setCell ⟨g, 2, none⟩ (.int .i64 (v4 : Int))) l p (k4 l) (f4 l) g #[.slice A1 kl c1, .int .i64 (sgn v3), .int .i64 (v4 : Int), .slice none 0 0] ∧ Mem.Own (w10.setCell ⟨g, 2, none⟩ (.int .i64 (v4 : Int))) w.heap.size 5 A1 c1 ((gkey l).map u8v) from ⟨H10.out.1.set 2 _, own_set H10.out.1 H10.out.2 2 _⟩)
  clear c2' z2
  obtain ⟨w11, hw11⟩ : ∃ x : World, w10.setCell ⟨g, 2, none⟩ (.int .i64 (v4 : Int)) = x := ⟨_, rfl⟩
  rw [hw11] at H11 ⊢
  clear hw11
  refine (rd5 H11.out.1).mono ?_
  rintro z w12 ⟨rfl, hG, hf⟩
  rw [HV5.out]
  have H12 := Lib.hid (And.intro hG (own_read H11.out.1 H11.out.2 hf))
  clear hG hf
  go_wp2_with fail
  have hp := rd6 H12.out.1
  rw [HV5.out] at hp
  refine hp.mono ?_
  clear hp
  rintro z w13 ⟨AR, cr, rfl, hB, hG, hf⟩
  have H13 := Lib.hid (And.intro hG (And.intro hB (own_read H12.out.1 H12.out.2 hf)))
  have HLR := Lib.hid (show (grow l).length ≤ 100000000 from by have h1 := got_len l (k5 l) (f5 l) (n5 l); have h2 := HE.out.2.1; have h3 := HE.out.2.2.2.1; unfold grow; omega)
  clear hG hB hf
  go_wp2_with fail
  refine (bclone_any w13 AR (grow l) _ cr rfl HLR.out H13.out.2.1).mono ?_
  rintro z w14 ⟨B1, d1, rfl, ho, hb⟩
  have hG := H13.out.1.keep hb
  have H14 := Lib.hid (And.intro hG (And.intro (ho.down H13.out.1.below.size) (H13.out.2.2.keep hb)))
  have c3' := hG.var.cell 3
  have z3 := hG.var.frozen 3
  simp at c3'
  clear ho hb hG
  obtain ⟨rl, hrl⟩ : ∃ x, (grow l).length = x := ⟨_, rfl⟩
  have HRL := Lib.hid hrl
  rw [hrl]
  clear hrl
  go_wp2_with fail
  have H15 := Lib.hid (show Gst w (w14.setCell ⟨g, 3, none⟩ (.slice B1 rl d1)) l p (k6 l) (f6 l) g #[.slice A1 kl c1, .int .i64 (sgn v3), .int .i64 (v4 : Int), .slice B1 rl d1] ∧ Mem.Own (w14.setCell ⟨g, 3, none⟩ (.slice B1 rl d1)) w.heap.size 5 B1 d1 ((grow l).map u8v) ∧ Mem.Own (w14.setCell ⟨g, 3, none⟩ (.slice B1 rl d1)) w.heap.size 5 A1 c1 ((gkey l).map u8v) from ⟨H14.out.1.set 3 _, own_set H14.out.1 H14.out.2.1 3 _, own_set H14.out.1 H14.out.2.2 3 _⟩)
  clear c3' z3
  obtain ⟨w15, hw15⟩ : ∃ x : World, w14.setCell ⟨g, 3, none⟩ (.slice B1 rl d1) = x := ⟨_, rfl⟩
  rw [hw15] at H15 ⊢
  clear hw15
  obtain ⟨ff, hff⟩ : ∃ x, f6 l = x := ⟨_, rfl⟩
  obtain ⟨lf, hlf⟩ : ∃ x, left l (k6 l) (f6 l) = x := ⟨_, rfl⟩
  obtain ⟨xw, hxw⟩ : ∃ x, num (got t 0 false 4) = x := ⟨_, rfl⟩
  obtain ⟨yw, hyw⟩ : ∃ x, (Crc.sum l).toNat = x := ⟨_, rfl⟩
  obtain ⟨mm, hmm⟩ : ∃ x, (rd l).may = x := ⟨_, rfl⟩
  obtain ⟨vr, hvr⟩ : ∃ x, sgn v3 = x := ⟨_, rfl⟩
  have HFF := Lib.hid hff
  have HLF := Lib.hid hlf
  have HXW := Lib.hid hxw
  have HYW := Lib.hid hyw
  have HMM := Lib.hid hmm
  have HVR := Lib.hid hvr
  rw [hvr] at H15 ⊢
  clear hff hlf hxw hyw hmm hvr H3 H4 H5 H6 H7 H8 H9 H10 H11 H12 H13 H14 i1 i4 i5
  --GET10
  have KC := Lib.hid (show ∀ W, Below w15.heap.size w15 W → W.cell? ⟨g, 0, none⟩ = some (.slice A1 kl c1) ∧ W.cell? ⟨g, 1, none⟩ = some (.int .i64 vr) ∧ W.cell? ⟨g, 2, none⟩ = some (.int .i64 (v4 : Int)) ∧ W.cell? ⟨g, 3, none⟩ = some (.slice B1 rl d1) from fun W hW => cells4 (H15.out.1.var.keep hW))
  have KA := Lib.hid (show ∀ W, Below w15.heap.size w15 W → Bytes W W.heap.size (some ⟨ab, off, none⟩) l ∧ Bytes W W.heap.size (some ⟨ab, off + e, none⟩) t from fun W hW => by
    have hb := next H15.out.1.below hW
    exact ⟨(HLA.out.below hb).up hb.size, (HTA.out.below hb).up hb.size⟩)
  have K1 := Lib.hid (show ∀ W, Below w15.heap.size w15 W → Calls Try.prog 47 #[.pointer (some ⟨p, 0, none⟩)] W fun z w' => z = .returned (.bool ff) ∧ Below w15.heap.size w15 w' from fun W hW => (bad_has (H15.out.1.keep hW).rd).mono (by rintro z w' ⟨rfl, rfl⟩; exact ⟨by rw [HFF.out], hW⟩))
  have K2 := Lib.hid (show ∀ W, Below w15.heap.size w15 W → Calls Try.prog 48 #[.pointer (some ⟨p, 0, none⟩)] W fun z w' => z = .returned (.int .i64 (lf : Int)) ∧ Below w15.heap.size w15 w' from fun W hW => (left_has (H15.out.1.keep hW).rd).mono (by rintro z w' ⟨rfl, hb⟩; exact ⟨by rw [HLF.out], next hW hb⟩))
  have K3 := Lib.hid (show ∀ W, Below w15.heap.size w15 W → Calls Try.prog 41 #[.slice (some ⟨ab, off + e, none⟩) 4 (c - e)] W fun z w' => ∃ p2, z = .returned (.pointer (some ⟨p2, 0, none⟩)) ∧ HasR w15.heap.size p2 t 0 false w' ∧ Below w15.heap.size w15 w' from fun W hW => (open_has W _ t 4 (c - e) HE.out.2.2.1.symm (by decide) (KA.out W hW).2).mono (by rintro z w' ⟨p2, rfl, hr, hb⟩; exact ⟨p2, rfl, hr.down hW.size, next hW hb⟩))
  have K4 := Lib.hid (show ∀ W p2, HasR w15.heap.size p2 t 0 false W → Below w15.heap.size w15 W → Calls Try.prog 46 #[.pointer (some ⟨p2, 0, none⟩)] W fun z w' => z = .returned (.int .u32 (xw : Int)) ∧ Below w15.heap.size w15 w' from fun W p2 hr hW => (rword_has hr).mono (by rintro z w' ⟨rfl, _, hf⟩; have hp := hr.at_; exact ⟨by rw [HXW.out], hW.trans (hf.below hW.size (fun q e => by omega))⟩))
  have K5 := Lib.hid (show ∀ W, Below w15.heap.size w15 W → Calls Try.prog 27 #[.slice (some ⟨ab, off, none⟩) e c] W fun z w' => z = .returned (.int .u32 (yw : Int)) ∧ Below w15.heap.size w15 w' from fun W hW => (sum_c W W.heap.size _ l e c HE.out.2.1 (by have := HE.out.2.2.2.1; omega) (KA.out W hW).1 (Nat.le_refl _)).mono (by rintro z w' ⟨rfl, hb⟩; exact ⟨by rw [HYW.out], next hW hb⟩))
  have K6 := Lib.hid (show ∀ W, Below w15.heap.size w15 W → Calls Try.prog 14 #[.agg #[.slice A1 kl c1, .int .i64 vr, .int .i64 (v4 : Int), .slice B1 rl d1]] W fun z w' => z = .returned (.bool mm) ∧ Below w15.heap.size w15 w' from fun W hW => by
    have := may_any W (rd l) A1 B1 kl c1 rl d1 HKL.out HRL.out
    rw [show (rd l).ver = vr from by rw [← HVR.out, ← HV3.out]; rfl, show (rd l).node = (v4 : Int) from by rw [← HV4.out]; rfl, HMM.out] at this
    exact this.mono (by rintro z w' ⟨rfl, hb⟩; exact ⟨rfl, next hW hb⟩))
  have hT0 : Below w15.heap.size w15 w15.drew := nextN (Mem.start w15) 1
  cases ff with
  | true =>
    go_wp2_with fail
    refine wp_region_noPanic ?_
    refine wp_heldG (fun W => Below w15.heap.size w15 W ∧ (W.cell? ⟨g, 0, none⟩ = some (.slice A1 kl c1) ∧ W.cell? ⟨g, 1, none⟩ = some (.int .i64 vr) ∧ W.cell? ⟨g, 2, none⟩ = some (.int .i64 (v4 : Int)) ∧ W.cell? ⟨g, 3, none⟩ = some (.slice B1 rl d1))) [] (by kernel_rfl) ?hs0 ?rg0
    case hs0 =>
      exact ⟨hT0, KC.out _ hT0⟩
    case rg0 =>
    intro hHeld
    refine wpAnyG_pure (i := 0) (oi := { dst := some 40, op := Op.move (Operand.tmp 5), type := 66, pos := _, after := #[], guard := none }) (v := ?_) rfl (by kernel_rfl) (by kernel_rfl) (by kernel_rfl) (by kernel_rfl) (fun _ _ _ h => h) (Or.inl ⟨by rfl, ?_⟩) (fun _ => by assumption) ?_
    rotate_left
    · intro w hSw
      try dsimp only at hSw
      go_simp
      try with_reducible rfl
    try simp only [Act.put, List.setIfInBounds_toArray, List.set_cons_zero, List.set_cons_succ]
    refine wpAnyG_one (i := 1) (o := { dst := some 41, op := Op.call { callee := Callee.value (Operand.func 47), args := #[Operand.tmp 40], argTypes := #[66] }, type := 4, pos := _, after := #[{ on := 0, ground := Ground.data }], guard := none }) (by kernel_rfl) rfl (fun K hK => ?_)
    go_simp
    refine (K1.out _ hHeld.1).mono ?_
    rintro z w9 ⟨rfl, h⟩
    try dsimp only
    refine hK.out _ _ ?_ (fun hHeld => ?_)
    · intro _
      try dsimp only
      exact ⟨h, KC.out _ h⟩
    clear hK K
    try simp only [Act.put, List.setIfInBounds_toArray, List.set_cons_zero, List.set_cons_succ]
    have hHeld := hHeld (by kernel_rfl)
    refine wpAnyG_pure (i := 2) (oi := { dst := some 42, op := Op.move (Operand.tmp 41), type := 4, pos := _, after := #[{ on := 1, ground := Ground.data }, { on := 1, ground := Ground.chain }], guard := none }) (v := ?_) rfl (by kernel_rfl) (by kernel_rfl) (by kernel_rfl) (by kernel_rfl) (fun _ _ _ h => h) (Or.inl ⟨by rfl, ?_⟩) (fun _ => by assumption) ?_
    rotate_left
    · intro w hSw
      try dsimp only at hSw
      go_simp
      try with_reducible rfl
    try simp only [Act.put, List.setIfInBounds_toArray, List.set_cons_zero, List.set_cons_succ]
    refine wpAnyG_pure (i := 3) (oi := { dst := some 43, op := Op.move (Operand.tmp 5), type := 66, pos := _, after := #[{ on := 2, ground := Ground.guard }], guard := some (2, false) }) (v := undef) rfl (by kernel_rfl) (by kernel_rfl) (by kernel_rfl) (by kernel_rfl) (fun _ _ _ h => h) (Or.inr ⟨by rfl, rfl⟩) (fun _ => by assumption) ?_
    try simp only [Act.put, List.setIfInBounds_toArray, List.set_cons_zero, List.set_cons_succ]
    refine wpAnyG_pure (i := 4) (oi := { dst := some 44, op := Op.call { callee := Callee.value (Operand.func 48), args := #[Operand.tmp 43], argTypes := #[66] }, type := 3, pos := _, after := #[{ on := 3, ground := Ground.data }, { on := 2, ground := Ground.chain }, { on := 2, ground := Ground.guard }], guard := some (2, false) }) (v := undef) rfl (by kernel_rfl) (by kernel_rfl) (by kernel_rfl) (by kernel_rfl) (fun _ _ _ h => h) (Or.inr ⟨by rfl, rfl⟩) (fun _ => by assumption) ?_
    try simp only [Act.put, List.setIfInBounds_toArray, List.set_cons_zero, List.set_cons_succ]
    refine wpAnyG_pure (i := 5) (oi := { dst := some 45, op := Op.binOp BinOp.gtr 3 (Operand.tmp 44) (Operand.const (Value.int IntKind.i64 0)) 3, type := 4, pos := _, after := #[{ on := 4, ground := Ground.data }, { on := 2, ground := Ground.guard }], guard := some (2, false) }) (v := undef) rfl (by kernel_rfl) (by kernel_rfl) (by kernel_rfl) (by kernel_rfl) (fun _ _ _ h => h) (Or.inr ⟨by rfl, rfl⟩) (fun _ => by assumption) ?_
    try simp only [Act.put, List.setIfInBounds_toArray, List.set_cons_zero, List.set_cons_succ]
    refine wpAnyG_pure (i := 6) (oi := { dst := some 46, op := Op.pick (Operand.tmp 42) (Operand.const (Value.bool true)) (Operand.tmp 45), type := 4, pos := _, after := #[{ on := 2, ground := Ground.data }, { on := 5, ground := Ground.data }], guard := none }) (v := ?_) rfl (by kernel_rfl) (by kernel_rfl) (by kernel_rfl) (by kernel_rfl) (fun _ _ _ h => h) (Or.inl ⟨by rfl, ?_⟩) (fun _ => by assumption) ?_
    rotate_left
    · intro w hSw
      try dsimp only at hSw
      go_simp
      try with_reducible rfl
    try simp only [Act.put, List.setIfInBounds_toArray, List.set_cons_zero, List.set_cons_succ]
    refine wpAnyG_pure (i := 7) (oi := { dst := some 47, op := Op.move (Operand.tmp 46), type := 4, pos := _, after := #[{ on := 6, ground := Ground.data }, { on := 4, ground := Ground.chain }], guard := none }) (v := ?_) rfl (by kernel_rfl) (by kernel_rfl) (by kernel_rfl) (by kernel_rfl) (fun _ _ _ h => h) (Or.inl ⟨by rfl, ?_⟩) (fun _ => by assumption) ?_
    rotate_left
    · intro w hSw
      try dsimp only at hSw
      go_simp
      try with_reducible rfl
    try simp only [Act.put, List.setIfInBounds_toArray, List.set_cons_zero, List.set_cons_succ]
    refine wpAnyG_pure (i := 8) (oi := { dst := some 48, op := Op.move (Operand.tmp 0), type := 22, pos := _, after := #[{ on := 7, ground := Ground.guard }], guard := some (7, false) }) (v := undef) rfl (by kernel_rfl) (by kernel_rfl) (by kernel_rfl) (by kernel_rfl) (fun _ _ _ h => h) (Or.inr ⟨by rfl, rfl⟩) (fun _ => by assumption) ?_
    try simp only [Act.put, List.setIfInBounds_toArray, List.set_cons_zero, List.set_cons_succ]
    refine wpAnyG_pure (i := 9) (oi := { dst := some 49, op := Op.move (Operand.tmp 4), type := 3, pos := _, after := #[{ on := 7, ground := Ground.guard }], guard := some (7, false) }) (v := undef) rfl (by kernel_rfl) (by kernel_rfl) (by kernel_rfl) (by kernel_rfl) (fun _ _ _ h => h) (Or.inr ⟨by rfl, rfl⟩) (fun _ => by assumption) ?_
    try simp only [Act.put, List.setIfInBounds_toArray, List.set_cons_zero, List.set_cons_succ]
    refine wpAnyG_pure (i := 10) (oi := { dst := some 50, op := Op.slice 22 (Operand.tmp 48) (some (Operand.tmp 49)) none none, type := 22, pos := _, after := #[{ on := 8, ground := Ground.data }, { on := 9, ground := Ground.data }, { on := 7, ground := Ground.guard }], guard := some (7, false) }) (v := undef) rfl (by kernel_rfl) (by kernel_rfl) (by kernel_rfl) (by kernel_rfl) (fun _ _ _ h => h) (Or.inr ⟨by rfl, rfl⟩) (fun _ => by assumption) ?_
    try simp only [Act.put, List.setIfInBounds_toArray, List.set_cons_zero, List.set_cons_succ]
    refine wpAnyG_pure (i := 11) (oi := { dst := some 51, op := Op.call { callee := Callee.value (Operand.func 41), args := #[Operand.tmp 50], argTypes := #[22] }, type := 66, pos := _, after := #[{ on := 10, ground := Ground.data }, { on := 7, ground := Ground.chain }, { on := 7, ground := Ground.guard }], guard := some (7, false) }) (v := undef) rfl (by kernel_rfl) (by kernel_rfl) (by kernel_rfl) (by kernel_rfl) (fun _ _ _ h => h) (Or.inr ⟨by rfl, rfl⟩) (fun _ => by assumption) ?_
    try simp only [Act.put, List.setIfInBounds_toArray, List.set_cons_zero, List.set_cons_succ]
    refine wpAnyG_pure (i := 12) (oi := { dst := some 52, op := Op.call { callee := Callee.value (Operand.func 46), args := #[Operand.tmp 51], argTypes := #[66] }, type := 56, pos := _, after := #[{ on := 11, ground := Ground.data }, { on := 11, ground := Ground.chain }, { on := 7, ground := Ground.guard }], guard := some (7, false) }) (v := undef) rfl (by kernel_rfl) (by kernel_rfl) (by kernel_rfl) (by kernel_rfl) (fun _ _ _ h => h) (Or.inr ⟨by rfl, rfl⟩) (fun _ => by assumption) ?_
    try simp only [Act.put, List.setIfInBounds_toArray, List.set_cons_zero, List.set_cons_succ]
    refine wpAnyG_pure (i := 13) (oi := { dst := some 53, op := Op.move (Operand.tmp 0), type := 22, pos := _, after := #[{ on := 7, ground := Ground.guard }], guard := some (7, false) }) (v := undef) rfl (by kernel_rfl) (by kernel_rfl) (by kernel_rfl) (by kernel_rfl) (fun _ _ _ h => h) (Or.inr ⟨by rfl, rfl⟩) (fun _ => by assumption) ?_
    try simp only [Act.put, List.setIfInBounds_toArray, List.set_cons_zero, List.set_cons_succ]
    refine wpAnyG_pure (i := 14) (oi := { dst := some 54, op := Op.move (Operand.tmp 4), type := 3, pos := _, after := #[{ on := 7, ground := Ground.guard }], guard := some (7, false) }) (v := undef) rfl (by kernel_rfl) (by kernel_rfl) (by kernel_rfl) (by kernel_rfl) (fun _ _ _ h => h) (Or.inr ⟨by rfl, rfl⟩) (fun _ => by assumption) ?_
    try simp only [Act.put, List.setIfInBounds_toArray, List.set_cons_zero, List.set_cons_succ]
    refine wpAnyG_pure (i := 15) (oi := { dst := some 55, op := Op.slice 22 (Operand.tmp 53) none (some (Operand.tmp 54)) none, type := 22, pos := _, after := #[{ on := 13, ground := Ground.data }, { on := 14, ground := Ground.data }, { on := 7, ground := Ground.guard }], guard := some (7, false) }) (v := undef) rfl (by kernel_rfl) (by kernel_rfl) (by kernel_rfl) (by kernel_rfl) (fun _ _ _ h => h) (Or.inr ⟨by rfl, rfl⟩) (fun _ => by assumption) ?_
    try simp only [Act.put, List.setIfInBounds_toArray, List.set_cons_zero, List.set_cons_succ]
    refine wpAnyG_pure (i := 16) (oi := { dst := some 56, op := Op.call { callee := Callee.value (Operand.func 27), args := #[Operand.tmp 55], argTypes := #[22] }, type := 56, pos := _, after := #[{ on := 15, ground := Ground.data }, { on := 12, ground := Ground.chain }, { on := 7, ground := Ground.guard }], guard := some (7, false) }) (v := undef) rfl (by kernel_rfl) (by kernel_rfl) (by kernel_rfl) (by kernel_rfl) (fun _ _ _ h => h) (Or.inr ⟨by rfl, rfl⟩) (fun _ => by assumption) ?_
    try simp only [Act.put, List.setIfInBounds_toArray, List.set_cons_zero, List.set_cons_succ]
    refine wpAnyG_pure (i := 17) (oi := { dst := some 57, op := Op.binOp BinOp.neq 56 (Operand.tmp 52) (Operand.tmp 56) 56, type := 4, pos := _, after := #[{ on := 12, ground := Ground.data }, { on := 16, ground := Ground.data }, { on := 7, ground := Ground.guard }], guard := some (7, false) }) (v := undef) rfl (by kernel_rfl) (by kernel_rfl) (by kernel_rfl) (by kernel_rfl) (fun _ _ _ h => h) (Or.inr ⟨by rfl, rfl⟩) (fun _ => by assumption) ?_
    try simp only [Act.put, List.setIfInBounds_toArray, List.set_cons_zero, List.set_cons_succ]
    refine wpAnyG_pure (i := 18) (oi := { dst := some 58, op := Op.pick (Operand.tmp 47) (Operand.const (Value.bool true)) (Operand.tmp 57), type := 4, pos := _, after := #[{ on := 7, ground := Ground.data }, { on := 17, ground := Ground.data }], guard := none }) (v := ?_) rfl (by kernel_rfl) (by kernel_rfl) (by kernel_rfl) (by kernel_rfl) (fun _ _ _ h => h) (Or.inl ⟨by rfl, ?_⟩) (fun _ => by assumption) ?_
    rotate_left
    · intro w hSw
      try dsimp only at hSw
      go_simp
      try with_reducible rfl
    try simp only [Act.put, List.setIfInBounds_toArray, List.set_cons_zero, List.set_cons_succ]
    refine wpAnyG_pure (i := 19) (oi := { dst := some 59, op := Op.move (Operand.tmp 58), type := 4, pos := _, after := #[{ on := 18, ground := Ground.data }, { on := 16, ground := Ground.chain }], guard := none }) (v := ?_) rfl (by kernel_rfl) (by kernel_rfl) (by kernel_rfl) (by kernel_rfl) (fun _ _ _ h => h) (Or.inl ⟨by rfl, ?_⟩) (fun _ => by assumption) ?_
    rotate_left
    · intro w hSw
      try dsimp only at hSw
      go_simp
      try with_reducible rfl
    try simp only [Act.put, List.setIfInBounds_toArray, List.set_cons_zero, List.set_cons_succ]
    refine wpAnyG_pure (i := 20) (oi := { dst := some 60, op := Op.load 24 (Operand.tmp 6), type := 24, pos := _, after := #[{ on := 19, ground := Ground.guard }], guard := some (19, false) }) (v := undef) rfl (by kernel_rfl) (by kernel_rfl) (by kernel_rfl) (by kernel_rfl) (fun _ _ _ h => h) (Or.inr ⟨by rfl, rfl⟩) (fun _ => by assumption) ?_
    try simp only [Act.put, List.setIfInBounds_toArray, List.set_cons_zero, List.set_cons_succ]
    refine wpAnyG_pure (i := 21) (oi := { dst := some 61, op := Op.call { callee := Callee.value (Operand.func 14), args := #[Operand.tmp 60], argTypes := #[24] }, type := 4, pos := _, after := #[{ on := 20, ground := Ground.data }, { on := 19, ground := Ground.chain }, { on := 19, ground := Ground.guard }], guard := some (19, false) }) (v := undef) rfl (by kernel_rfl) (by kernel_rfl) (by kernel_rfl) (by kernel_rfl) (fun _ _ _ h => h) (Or.inr ⟨by rfl, rfl⟩) (fun _ => by assumption) ?_
    try simp only [Act.put, List.setIfInBounds_toArray, List.set_cons_zero, List.set_cons_succ]
    refine wpAnyG_pure (i := 22) (oi := { dst := some 62, op := Op.unOp UnOp.not 4 (Operand.tmp 61), type := 4, pos := _, after := #[{ on := 21, ground := Ground.data }, { on := 19, ground := Ground.guard }], guard := some (19, false) }) (v := undef) rfl (by kernel_rfl) (by kernel_rfl) (by kernel_rfl) (by kernel_rfl) (fun _ _ _ h => h) (Or.inr ⟨by rfl, rfl⟩) (fun _ => by assumption) ?_
    try simp only [Act.put, List.setIfInBounds_toArray, List.set_cons_zero, List.set_cons_succ]
    refine wpAnyG_pure (i := 23) (oi := { dst := some 63, op := Op.pick (Operand.tmp 59) (Operand.const (Value.bool true)) (Operand.tmp 62), type := 4, pos := _, after := #[{ on := 19, ground := Ground.data }, { on := 22, ground := Ground.data }], guard := none }) (v := ?_) rfl (by kernel_rfl) (by kernel_rfl) (by kernel_rfl) (by kernel_rfl) (fun _ _ _ h => h) (Or.inl ⟨by rfl, ?_⟩) (fun _ => by assumption) ?_
    rotate_left
    · intro w hSw
      try dsimp only at hSw
      go_simp
      try with_reducible rfl
    try simp only [Act.put, List.setIfInBounds_toArray, List.set_cons_zero, List.set_cons_succ]
    refine wpAnyG_done (by kernel_rfl) ?_ _
    refine NoPanic.normal ?_
    have hz := hHeld.1
    have HW := Lib.hid hz
    have hr0 := H15.out.1.r0.keep hz
    obtain ⟨x0, x1, x2, x3⟩ := cells4 hr0
    have y0 := hr0.frozen 0
    have y1 := hr0.frozen 1
    have y2 := hr0.frozen 2
    have y3 := hr0.frozen 3
    clear hHeld hz hr0
    go_wp2_with fail
    refine bodyPost_ret (v := .tuple #[.agg #[.slice none 0 0, .int .i64 0, .int .i64 0, .slice none 0 0], .int .i64 160]) (by simp [results, Try.results20, go_sem, x0, x1, x2, x3]) rfl ⟨?_, ?_⟩
    · refine .inr ⟨fun s hs => ?_, rfl⟩
      rw [HE.out.1] at hs
      have hk := (share_rdOk HE.out.2.2.1 hs).1
      unfold rdOk at hk
      rw [HFF.out] at hk
      simp at hk
    · exact ((((next H15.out.1.below HW.out).setCell (p := ⟨w.heap.size, 0, none⟩) (Nat.le_refl _) _).setCell (p := ⟨w.heap.size, 1, none⟩) (Nat.le_refl _) _).setCell (p := ⟨w.heap.size, 2, none⟩) (Nat.le_refl _) _).setCell (p := ⟨w.heap.size, 3, none⟩) (Nat.le_refl _) _
  | false =>
    by_cases hlf : lf = 0
    · subst hlf
      by_cases hxy : xw = yw
      · subst hxy
        have hx0 : ((xw : Int) == (xw : Int)) = true := by simp
        cases mm with
        | false =>
          go_wp2_with fail
          refine wp_region_noPanic ?_
          refine wp_heldG (fun W => Below w15.heap.size w15 W ∧ (W.cell? ⟨g, 0, none⟩ = some (.slice A1 kl c1) ∧ W.cell? ⟨g, 1, none⟩ = some (.int .i64 vr) ∧ W.cell? ⟨g, 2, none⟩ = some (.int .i64 (v4 : Int)) ∧ W.cell? ⟨g, 3, none⟩ = some (.slice B1 rl d1))) [] (by kernel_rfl) ?hs0 ?rg0
          case hs0 =>
            exact ⟨hT0, KC.out _ hT0⟩
          case rg0 =>
          intro hHeld
          refine wpAnyG_pure (i := 0) (oi := { dst := some 40, op := Op.move (Operand.tmp 5), type := 66, pos := _, after := #[], guard := none }) (v := ?_) rfl (by kernel_rfl) (by kernel_rfl) (by kernel_rfl) (by kernel_rfl) (fun _ _ _ h => h) (Or.inl ⟨by rfl, ?_⟩) (fun _ => by assumption) ?_
          rotate_left
          · intro w hSw
            try dsimp only at hSw
            go_simp
            try with_reducible rfl
          try simp only [Act.put, List.setIfInBounds_toArray, List.set_cons_zero, List.set_cons_succ]
          refine wpAnyG_one (i := 1) (o := { dst := some 41, op := Op.call { callee := Callee.value (Operand.func 47), args := #[Operand.tmp 40], argTypes := #[66] }, type := 4, pos := _, after := #[{ on := 0, ground := Ground.data }], guard := none }) (by kernel_rfl) rfl (fun K hK => ?_)
          go_simp
          refine (K1.out _ hHeld.1).mono ?_
          rintro z w9 ⟨rfl, h⟩
          try dsimp only
          refine hK.out _ _ ?_ (fun hHeld => ?_)
          · intro _
            try dsimp only
            exact ⟨h, KC.out _ h⟩
          clear hK K
          try simp only [Act.put, List.setIfInBounds_toArray, List.set_cons_zero, List.set_cons_succ]
          have hHeld := hHeld (by kernel_rfl)
          refine wpAnyG_pure (i := 2) (oi := { dst := some 42, op := Op.move (Operand.tmp 41), type := 4, pos := _, after := #[{ on := 1, ground := Ground.data }, { on := 1, ground := Ground.chain }], guard := none }) (v := ?_) rfl (by kernel_rfl) (by kernel_rfl) (by kernel_rfl) (by kernel_rfl) (fun _ _ _ h => h) (Or.inl ⟨by rfl, ?_⟩) (fun _ => by assumption) ?_
          rotate_left
          · intro w hSw
            try dsimp only at hSw
            go_simp
            try with_reducible rfl
          try simp only [Act.put, List.setIfInBounds_toArray, List.set_cons_zero, List.set_cons_succ]
          refine wpAnyG_pure (i := 3) (oi := { dst := some 43, op := Op.move (Operand.tmp 5), type := 66, pos := _, after := #[{ on := 2, ground := Ground.guard }], guard := some (2, false) }) (v := ?_) rfl (by kernel_rfl) (by kernel_rfl) (by kernel_rfl) (by kernel_rfl) (fun _ _ _ h => h) (Or.inl ⟨by rfl, ?_⟩) (fun _ => by assumption) ?_
          rotate_left
          · intro w hSw
            try dsimp only at hSw
            go_simp
            try with_reducible rfl
          try simp only [Act.put, List.setIfInBounds_toArray, List.set_cons_zero, List.set_cons_succ]
          refine wpAnyG_one (i := 4) (o := { dst := some 44, op := Op.call { callee := Callee.value (Operand.func 48), args := #[Operand.tmp 43], argTypes := #[66] }, type := 3, pos := _, after := #[{ on := 3, ground := Ground.data }, { on := 2, ground := Ground.chain }, { on := 2, ground := Ground.guard }], guard := some (2, false) }) (by kernel_rfl) rfl (fun K hK => ?_)
          go_simp
          refine (K2.out _ hHeld.1).mono ?_
          rintro z w9 ⟨rfl, h⟩
          try dsimp only
          refine hK.out _ _ ?_ (fun hHeld => ?_)
          · intro _
            try dsimp only
            exact ⟨h, KC.out _ h⟩
          clear hK K
          try simp only [Act.put, List.setIfInBounds_toArray, List.set_cons_zero, List.set_cons_succ]
          have hHeld := hHeld (by kernel_rfl)
          refine wpAnyG_pure (i := 5) (oi := { dst := some 45, op := Op.binOp BinOp.gtr 3 (Operand.tmp 44) (Operand.const (Value.int IntKind.i64 0)) 3, type := 4, pos := _, after := #[{ on := 4, ground := Ground.data }, { on := 2, ground := Ground.guard }], guard := some (2, false) }) (v := ?_) rfl (by kernel_rfl) (by kernel_rfl) (by kernel_rfl) (by kernel_rfl) (fun _ _ _ h => h) (Or.inl ⟨by rfl, ?_⟩) (fun _ => by assumption) ?_
          rotate_left
          · intro w hSw
            try dsimp only at hSw
            go_simp
            try with_reducible rfl
          try simp only [Act.put, List.setIfInBounds_toArray, List.set_cons_zero, List.set_cons_succ]
          refine wpAnyG_pure (i := 6) (oi := { dst := some 46, op := Op.pick (Operand.tmp 42) (Operand.const (Value.bool true)) (Operand.tmp 45), type := 4, pos := _, after := #[{ on := 2, ground := Ground.data }, { on := 5, ground := Ground.data }], guard := none }) (v := ?_) rfl (by kernel_rfl) (by kernel_rfl) (by kernel_rfl) (by kernel_rfl) (fun _ _ _ h => h) (Or.inl ⟨by rfl, ?_⟩) (fun _ => by assumption) ?_
          rotate_left
          · intro w hSw
            try dsimp only at hSw
            go_simp
            try with_reducible rfl
          try simp only [Act.put, List.setIfInBounds_toArray, List.set_cons_zero, List.set_cons_succ]
          refine wpAnyG_pure (i := 7) (oi := { dst := some 47, op := Op.move (Operand.tmp 46), type := 4, pos := _, after := #[{ on := 6, ground := Ground.data }, { on := 4, ground := Ground.chain }], guard := none }) (v := ?_) rfl (by kernel_rfl) (by kernel_rfl) (by kernel_rfl) (by kernel_rfl) (fun _ _ _ h => h) (Or.inl ⟨by rfl, ?_⟩) (fun _ => by assumption) ?_
          rotate_left
          · intro w hSw
            try dsimp only at hSw
            go_simp
            try with_reducible rfl
          try simp only [Act.put, List.setIfInBounds_toArray, List.set_cons_zero, List.set_cons_succ]
          refine wpAnyG_pure (i := 8) (oi := { dst := some 48, op := Op.move (Operand.tmp 0), type := 22, pos := _, after := #[{ on := 7, ground := Ground.guard }], guard := some (7, false) }) (v := ?_) rfl (by kernel_rfl) (by kernel_rfl) (by kernel_rfl) (by kernel_rfl) (fun _ _ _ h => h) (Or.inl ⟨by rfl, ?_⟩) (fun _ => by assumption) ?_
          rotate_left
          · intro w hSw
            try dsimp only at hSw
            go_simp
            try with_reducible rfl
          try simp only [Act.put, List.setIfInBounds_toArray, List.set_cons_zero, List.set_cons_succ]
          refine wpAnyG_pure (i := 9) (oi := { dst := some 49, op := Op.move (Operand.tmp 4), type := 3, pos := _, after := #[{ on := 7, ground := Ground.guard }], guard := some (7, false) }) (v := ?_) rfl (by kernel_rfl) (by kernel_rfl) (by kernel_rfl) (by kernel_rfl) (fun _ _ _ h => h) (Or.inl ⟨by rfl, ?_⟩) (fun _ => by assumption) ?_
          rotate_left
          · intro w hSw
            try dsimp only at hSw
            go_simp
            try with_reducible rfl
          try simp only [Act.put, List.setIfInBounds_toArray, List.set_cons_zero, List.set_cons_succ]
          refine wpAnyG_pure (i := 10) (oi := { dst := some 50, op := Op.slice 22 (Operand.tmp 48) (some (Operand.tmp 49)) none none, type := 22, pos := _, after := #[{ on := 8, ground := Ground.data }, { on := 9, ground := Ground.data }, { on := 7, ground := Ground.guard }], guard := some (7, false) }) (v := ?_) rfl (by kernel_rfl) (by kernel_rfl) (by kernel_rfl) (by kernel_rfl) (fun _ _ _ h => h) (Or.inl ⟨by rfl, ?_⟩) (fun _ => by assumption) ?_
          rotate_left
          · intro w hSw
            try dsimp only at hSw
            go_simp
            try with_reducible rfl
          try simp only [Act.put, List.setIfInBounds_toArray, List.set_cons_zero, List.set_cons_succ]
          refine wpAnyG_pure (i := 13) (oi := { dst := some 53, op := Op.move (Operand.tmp 0), type := 22, pos := _, after := #[{ on := 7, ground := Ground.guard }], guard := some (7, false) }) (v := ?_) rfl (by kernel_rfl) (by kernel_rfl) (by kernel_rfl) (by kernel_rfl) (fun _ _ _ h => h) (Or.inl ⟨by rfl, ?_⟩) (fun _ => by assumption) ?_
          rotate_left
          · intro w hSw
            try dsimp only at hSw
            go_simp
            try with_reducible rfl
          try simp only [Act.put, List.setIfInBounds_toArray, List.set_cons_zero, List.set_cons_succ]
          refine wpAnyG_pure (i := 14) (oi := { dst := some 54, op := Op.move (Operand.tmp 4), type := 3, pos := _, after := #[{ on := 7, ground := Ground.guard }], guard := some (7, false) }) (v := ?_) rfl (by kernel_rfl) (by kernel_rfl) (by kernel_rfl) (by kernel_rfl) (fun _ _ _ h => h) (Or.inl ⟨by rfl, ?_⟩) (fun _ => by assumption) ?_
          rotate_left
          · intro w hSw
            try dsimp only at hSw
            go_simp
            try with_reducible rfl
          try simp only [Act.put, List.setIfInBounds_toArray, List.set_cons_zero, List.set_cons_succ]
          refine wpAnyG_pure (i := 15) (oi := { dst := some 55, op := Op.slice 22 (Operand.tmp 53) none (some (Operand.tmp 54)) none, type := 22, pos := _, after := #[{ on := 13, ground := Ground.data }, { on := 14, ground := Ground.data }, { on := 7, ground := Ground.guard }], guard := some (7, false) }) (v := ?_) rfl (by kernel_rfl) (by kernel_rfl) (by kernel_rfl) (by kernel_rfl) (fun _ _ _ h => h) (Or.inl ⟨by rfl, ?_⟩) (fun _ => by assumption) ?_
          rotate_left
          · intro w hSw
            try dsimp only at hSw
            go_simp
            try with_reducible rfl
          try simp only [Act.put, List.setIfInBounds_toArray, List.set_cons_zero, List.set_cons_succ]
          refine wpAnyG_one (i := 11) (o := { dst := some 51, op := Op.call { callee := Callee.value (Operand.func 41), args := #[Operand.tmp 50], argTypes := #[22] }, type := 66, pos := _, after := #[{ on := 10, ground := Ground.data }, { on := 7, ground := Ground.chain }, { on := 7, ground := Ground.guard }], guard := some (7, false) }) (by kernel_rfl) rfl (fun K hK => ?_)
          go_simp
          refine (K3.out _ hHeld.1).mono ?_
          rintro z w9 ⟨p2, rfl, hr, h⟩
          have HR2 := Lib.hid hr
          clear hr
          try dsimp only
          refine hK.out _ _ ?_ (fun hHeld => ?_)
          · intro _
            try dsimp only
            exact ⟨h, KC.out _ h⟩
          clear hK K
          try simp only [Act.put, List.setIfInBounds_toArray, List.set_cons_zero, List.set_cons_succ]
          have hHeld := hHeld (by kernel_rfl)
          refine wpAnyG_one (i := 12) (o := { dst := some 52, op := Op.call { callee := Callee.value (Operand.func 46), args := #[Operand.tmp 51], argTypes := #[66] }, type := 56, pos := _, after := #[{ on := 11, ground := Ground.data }, { on := 11, ground := Ground.chain }, { on := 7, ground := Ground.guard }], guard := some (7, false) }) (by kernel_rfl) rfl (fun K hK => ?_)
          go_simp
          refine (K4.out _ _ HR2.out hHeld.1).mono ?_
          rintro z w10 ⟨rfl, h⟩
          try dsimp only
          refine hK.out _ _ ?_ (fun hHeld => ?_)
          · intro _
            try dsimp only
            exact ⟨h, KC.out _ h⟩
          clear hK K
          try simp only [Act.put, List.setIfInBounds_toArray, List.set_cons_zero, List.set_cons_succ]
          have hHeld := hHeld (by kernel_rfl)
          refine wpAnyG_one (i := 16) (o := { dst := some 56, op := Op.call { callee := Callee.value (Operand.func 27), args := #[Operand.tmp 55], argTypes := #[22] }, type := 56, pos := _, after := #[{ on := 15, ground := Ground.data }, { on := 12, ground := Ground.chain }, { on := 7, ground := Ground.guard }], guard := some (7, false) }) (by kernel_rfl) rfl (fun K hK => ?_)
          go_simp
          refine (K5.out _ hHeld.1).mono ?_
          rintro z w9 ⟨rfl, h⟩
          try dsimp only
          refine hK.out _ _ ?_ (fun hHeld => ?_)
          · intro _
            try dsimp only
            exact ⟨h, KC.out _ h⟩
          clear hK K
          try simp only [Act.put, List.setIfInBounds_toArray, List.set_cons_zero, List.set_cons_succ]
          have hHeld := hHeld (by kernel_rfl)
          refine wpAnyG_pure (i := 17) (oi := { dst := some 57, op := Op.binOp BinOp.neq 56 (Operand.tmp 52) (Operand.tmp 56) 56, type := 4, pos := _, after := #[{ on := 12, ground := Ground.data }, { on := 16, ground := Ground.data }, { on := 7, ground := Ground.guard }], guard := some (7, false) }) (v := ?_) rfl (by kernel_rfl) (by kernel_rfl) (by kernel_rfl) (by kernel_rfl) (fun _ _ _ h => h) (Or.inl ⟨by rfl, ?_⟩) (fun _ => by assumption) ?_
          rotate_left
          · intro w hSw
            try dsimp only at hSw
            go_simp
            try with_reducible rfl
          try simp only [Act.put, List.setIfInBounds_toArray, List.set_cons_zero, List.set_cons_succ]
          refine wpAnyG_pure (i := 18) (oi := { dst := some 58, op := Op.pick (Operand.tmp 47) (Operand.const (Value.bool true)) (Operand.tmp 57), type := 4, pos := _, after := #[{ on := 7, ground := Ground.data }, { on := 17, ground := Ground.data }], guard := none }) (v := ?_) rfl (by kernel_rfl) (by kernel_rfl) (by kernel_rfl) (by kernel_rfl) (fun _ _ _ h => h) (Or.inl ⟨by rfl, ?_⟩) (fun _ => by assumption) ?_
          rotate_left
          · intro w hSw
            try dsimp only at hSw
            go_simp
            try with_reducible rfl
          try simp only [Act.put, List.setIfInBounds_toArray, List.set_cons_zero, List.set_cons_succ]
          refine wpAnyG_pure (i := 19) (oi := { dst := some 59, op := Op.move (Operand.tmp 58), type := 4, pos := _, after := #[{ on := 18, ground := Ground.data }, { on := 16, ground := Ground.chain }], guard := none }) (v := ?_) rfl (by kernel_rfl) (by kernel_rfl) (by kernel_rfl) (by kernel_rfl) (fun _ _ _ h => h) (Or.inl ⟨by rfl, ?_⟩) (fun _ => by assumption) ?_
          rotate_left
          · intro w hSw
            try dsimp only at hSw
            go_simp
            try with_reducible rfl
          try simp only [Act.put, List.setIfInBounds_toArray, List.set_cons_zero, List.set_cons_succ]
          refine wpAnyG_take (i := 20) (oi := { dst := some 60, op := Op.load 24 (Operand.tmp 6), type := 24, pos := _, after := #[{ on := 19, ground := Ground.guard }], guard := some (19, false) }) (v := ?_) rfl (by kernel_rfl) (by kernel_rfl) (by kernel_rfl) (by kernel_rfl) (fun _ _ _ h => h) (Or.inl ⟨by rfl, ?_⟩) (by assumption) ?_
          rotate_left
          · intro w hSw
            try dsimp only at hSw
            go_simp
            try with_reducible rfl
          try simp only [Act.put, List.setIfInBounds_toArray, List.set_cons_zero, List.set_cons_succ]
          refine wpAnyG_one (i := 21) (o := { dst := some 61, op := Op.call { callee := Callee.value (Operand.func 14), args := #[Operand.tmp 60], argTypes := #[24] }, type := 4, pos := _, after := #[{ on := 20, ground := Ground.data }, { on := 19, ground := Ground.chain }, { on := 19, ground := Ground.guard }], guard := some (19, false) }) (by kernel_rfl) rfl (fun K hK => ?_)
          go_simp
          refine (K6.out _ hHeld.1).mono ?_
          rintro z w9 ⟨rfl, h⟩
          try dsimp only
          refine hK.out _ _ ?_ (fun hHeld => ?_)
          · intro _
            try dsimp only
            exact ⟨h, KC.out _ h⟩
          clear hK K
          try simp only [Act.put, List.setIfInBounds_toArray, List.set_cons_zero, List.set_cons_succ]
          have hHeld := hHeld (by kernel_rfl)
          refine wpAnyG_pure (i := 22) (oi := { dst := some 62, op := Op.unOp UnOp.not 4 (Operand.tmp 61), type := 4, pos := _, after := #[{ on := 21, ground := Ground.data }, { on := 19, ground := Ground.guard }], guard := some (19, false) }) (v := ?_) rfl (by kernel_rfl) (by kernel_rfl) (by kernel_rfl) (by kernel_rfl) (fun _ _ _ h => h) (Or.inl ⟨by rfl, ?_⟩) (fun _ => by assumption) ?_
          rotate_left
          · intro w hSw
            try dsimp only at hSw
            go_simp
            try with_reducible rfl
          try simp only [Act.put, List.setIfInBounds_toArray, List.set_cons_zero, List.set_cons_succ]
          refine wpAnyG_pure (i := 23) (oi := { dst := some 63, op := Op.pick (Operand.tmp 59) (Operand.const (Value.bool true)) (Operand.tmp 62), type := 4, pos := _, after := #[{ on := 19, ground := Ground.data }, { on := 22, ground := Ground.data }], guard := none }) (v := ?_) rfl (by kernel_rfl) (by kernel_rfl) (by kernel_rfl) (by kernel_rfl) (fun _ _ _ h => h) (Or.inl ⟨by rfl, ?_⟩) (fun _ => by assumption) ?_
          rotate_left
          · intro w hSw
            try dsimp only at hSw
            go_simp
            try with_reducible rfl
          try simp only [Act.put, List.setIfInBounds_toArray, List.set_cons_zero, List.set_cons_succ]
          refine wpAnyG_done (by kernel_rfl) ?_ _
          refine NoPanic.normal ?_
          have hz := hHeld.1
          have HW := Lib.hid hz
          have hr0 := H15.out.1.r0.keep hz
          obtain ⟨x0, x1, x2, x3⟩ := cells4 hr0
          have y0 := hr0.frozen 0
          have y1 := hr0.frozen 1
          have y2 := hr0.frozen 2
          have y3 := hr0.frozen 3
          clear hHeld hz hr0
          go_wp2_with fail
          refine bodyPost_ret (v := .tuple #[.agg #[.slice none 0 0, .int .i64 0, .int .i64 0, .slice none 0 0], .int .i64 160]) (by simp [results, Try.results20, go_sem, x0, x1, x2, x3]) rfl ⟨?_, ?_⟩
          · refine .inr ⟨fun s hs => ?_, rfl⟩
            rw [HE.out.1] at hs
            have hk := (share_rdOk HE.out.2.2.1 hs).1
            unfold rdOk at hk
            rw [HMM.out] at hk
            simp at hk
          · exact ((((next H15.out.1.below HW.out).setCell (p := ⟨w.heap.size, 0, none⟩) (Nat.le_refl _) _).setCell (p := ⟨w.heap.size, 1, none⟩) (Nat.le_refl _) _).setCell (p := ⟨w.heap.size, 2, none⟩) (Nat.le_refl _) _).setCell (p := ⟨w.heap.size, 3, none⟩) (Nat.le_refl _) _
        | true =>
          go_wp2_with fail
          refine wp_region_noPanic ?_
          refine wp_heldG (fun W => Below w15.heap.size w15 W ∧ (W.cell? ⟨g, 0, none⟩ = some (.slice A1 kl c1) ∧ W.cell? ⟨g, 1, none⟩ = some (.int .i64 vr) ∧ W.cell? ⟨g, 2, none⟩ = some (.int .i64 (v4 : Int)) ∧ W.cell? ⟨g, 3, none⟩ = some (.slice B1 rl d1))) [] (by kernel_rfl) ?hs0 ?rg0
          case hs0 =>
            exact ⟨hT0, KC.out _ hT0⟩
          case rg0 =>
          intro hHeld
          refine wpAnyG_pure (i := 0) (oi := { dst := some 40, op := Op.move (Operand.tmp 5), type := 66, pos := _, after := #[], guard := none }) (v := ?_) rfl (by kernel_rfl) (by kernel_rfl) (by kernel_rfl) (by kernel_rfl) (fun _ _ _ h => h) (Or.inl ⟨by rfl, ?_⟩) (fun _ => by assumption) ?_
          rotate_left
          · intro w hSw
            try dsimp only at hSw
            go_simp
            try with_reducible rfl
          try simp only [Act.put, List.setIfInBounds_toArray, List.set_cons_zero, List.set_cons_succ]
          refine wpAnyG_one (i := 1) (o := { dst := some 41, op := Op.call { callee := Callee.value (Operand.func 47), args := #[Operand.tmp 40], argTypes := #[66] }, type := 4, pos := _, after := #[{ on := 0, ground := Ground.data }], guard := none }) (by kernel_rfl) rfl (fun K hK => ?_)
          go_simp
          refine (K1.out _ hHeld.1).mono ?_
          rintro z w9 ⟨rfl, h⟩
          try dsimp only
          refine hK.out _ _ ?_ (fun hHeld => ?_)
          · intro _
            try dsimp only
            exact ⟨h, KC.out _ h⟩
          clear hK K
          try simp only [Act.put, List.setIfInBounds_toArray, List.set_cons_zero, List.set_cons_succ]
          have hHeld := hHeld (by kernel_rfl)
          refine wpAnyG_pure (i := 2) (oi := { dst := some 42, op := Op.move (Operand.tmp 41), type := 4, pos := _, after := #[{ on := 1, ground := Ground.data }, { on := 1, ground := Ground.chain }], guard := none }) (v := ?_) rfl (by kernel_rfl) (by kernel_rfl) (by kernel_rfl) (by kernel_rfl) (fun _ _ _ h => h) (Or.inl ⟨by rfl, ?_⟩) (fun _ => by assumption) ?_
          rotate_left
          · intro w hSw
            try dsimp only at hSw
            go_simp
            try with_reducible rfl
          try simp only [Act.put, List.setIfInBounds_toArray, List.set_cons_zero, List.set_cons_succ]
          refine wpAnyG_pure (i := 3) (oi := { dst := some 43, op := Op.move (Operand.tmp 5), type := 66, pos := _, after := #[{ on := 2, ground := Ground.guard }], guard := some (2, false) }) (v := ?_) rfl (by kernel_rfl) (by kernel_rfl) (by kernel_rfl) (by kernel_rfl) (fun _ _ _ h => h) (Or.inl ⟨by rfl, ?_⟩) (fun _ => by assumption) ?_
          rotate_left
          · intro w hSw
            try dsimp only at hSw
            go_simp
            try with_reducible rfl
          try simp only [Act.put, List.setIfInBounds_toArray, List.set_cons_zero, List.set_cons_succ]
          refine wpAnyG_one (i := 4) (o := { dst := some 44, op := Op.call { callee := Callee.value (Operand.func 48), args := #[Operand.tmp 43], argTypes := #[66] }, type := 3, pos := _, after := #[{ on := 3, ground := Ground.data }, { on := 2, ground := Ground.chain }, { on := 2, ground := Ground.guard }], guard := some (2, false) }) (by kernel_rfl) rfl (fun K hK => ?_)
          go_simp
          refine (K2.out _ hHeld.1).mono ?_
          rintro z w9 ⟨rfl, h⟩
          try dsimp only
          refine hK.out _ _ ?_ (fun hHeld => ?_)
          · intro _
            try dsimp only
            exact ⟨h, KC.out _ h⟩
          clear hK K
          try simp only [Act.put, List.setIfInBounds_toArray, List.set_cons_zero, List.set_cons_succ]
          have hHeld := hHeld (by kernel_rfl)
          refine wpAnyG_pure (i := 5) (oi := { dst := some 45, op := Op.binOp BinOp.gtr 3 (Operand.tmp 44) (Operand.const (Value.int IntKind.i64 0)) 3, type := 4, pos := _, after := #[{ on := 4, ground := Ground.data }, { on := 2, ground := Ground.guard }], guard := some (2, false) }) (v := ?_) rfl (by kernel_rfl) (by kernel_rfl) (by kernel_rfl) (by kernel_rfl) (fun _ _ _ h => h) (Or.inl ⟨by rfl, ?_⟩) (fun _ => by assumption) ?_
          rotate_left
          · intro w hSw
            try dsimp only at hSw
            go_simp
            try with_reducible rfl
          try simp only [Act.put, List.setIfInBounds_toArray, List.set_cons_zero, List.set_cons_succ]
          refine wpAnyG_pure (i := 6) (oi := { dst := some 46, op := Op.pick (Operand.tmp 42) (Operand.const (Value.bool true)) (Operand.tmp 45), type := 4, pos := _, after := #[{ on := 2, ground := Ground.data }, { on := 5, ground := Ground.data }], guard := none }) (v := ?_) rfl (by kernel_rfl) (by kernel_rfl) (by kernel_rfl) (by kernel_rfl) (fun _ _ _ h => h) (Or.inl ⟨by rfl, ?_⟩) (fun _ => by assumption) ?_
          rotate_left
          · intro w hSw
            try dsimp only at hSw
            go_simp
            try with_reducible rfl
          try simp only [Act.put, List.setIfInBounds_toArray, List.set_cons_zero, List.set_cons_succ]
          refine wpAnyG_pure (i := 7) (oi := { dst := some 47, op := Op.move (Operand.tmp 46), type := 4, pos := _, after := #[{ on := 6, ground := Ground.data }, { on := 4, ground := Ground.chain }], guard := none }) (v := ?_) rfl (by kernel_rfl) (by kernel_rfl) (by kernel_rfl) (by kernel_rfl) (fun _ _ _ h => h) (Or.inl ⟨by rfl, ?_⟩) (fun _ => by assumption) ?_
          rotate_left
          · intro w hSw
            try dsimp only at hSw
            go_simp
            try with_reducible rfl
          try simp only [Act.put, List.setIfInBounds_toArray, List.set_cons_zero, List.set_cons_succ]
          refine wpAnyG_pure (i := 8) (oi := { dst := some 48, op := Op.move (Operand.tmp 0), type := 22, pos := _, after := #[{ on := 7, ground := Ground.guard }], guard := some (7, false) }) (v := ?_) rfl (by kernel_rfl) (by kernel_rfl) (by kernel_rfl) (by kernel_rfl) (fun _ _ _ h => h) (Or.inl ⟨by rfl, ?_⟩) (fun _ => by assumption) ?_
          rotate_left
          · intro w hSw
            try dsimp only at hSw
            go_simp
            try with_reducible rfl
          try simp only [Act.put, List.setIfInBounds_toArray, List.set_cons_zero, List.set_cons_succ]
          refine wpAnyG_pure (i := 9) (oi := { dst := some 49, op := Op.move (Operand.tmp 4), type := 3, pos := _, after := #[{ on := 7, ground := Ground.guard }], guard := some (7, false) }) (v := ?_) rfl (by kernel_rfl) (by kernel_rfl) (by kernel_rfl) (by kernel_rfl) (fun _ _ _ h => h) (Or.inl ⟨by rfl, ?_⟩) (fun _ => by assumption) ?_
          rotate_left
          · intro w hSw
            try dsimp only at hSw
            go_simp
            try with_reducible rfl
          try simp only [Act.put, List.setIfInBounds_toArray, List.set_cons_zero, List.set_cons_succ]
          refine wpAnyG_pure (i := 10) (oi := { dst := some 50, op := Op.slice 22 (Operand.tmp 48) (some (Operand.tmp 49)) none none, type := 22, pos := _, after := #[{ on := 8, ground := Ground.data }, { on := 9, ground := Ground.data }, { on := 7, ground := Ground.guard }], guard := some (7, false) }) (v := ?_) rfl (by kernel_rfl) (by kernel_rfl) (by kernel_rfl) (by kernel_rfl) (fun _ _ _ h => h) (Or.inl ⟨by rfl, ?_⟩) (fun _ => by assumption) ?_
          rotate_left
          · intro w hSw
            try dsimp only at hSw
            go_simp
            try with_reducible rfl
          try simp only [Act.put, List.setIfInBounds_toArray, List.set_cons_zero, List.set_cons_succ]
          refine wpAnyG_pure (i := 13) (oi := { dst := some 53, op := Op.move (Operand.tmp 0), type := 22, pos := _, after := #[{ on := 7, ground := Ground.guard }], guard := some (7, false) }) (v := ?_) rfl (by kernel_rfl) (by kernel_rfl) (by kernel_rfl) (by kernel_rfl) (fun _ _ _ h => h) (Or.inl ⟨by rfl, ?_⟩) (fun _ => by assumption) ?_
          rotate_left
          · intro w hSw
            try dsimp only at hSw
            go_simp
            try with_reducible rfl
          try simp only [Act.put, List.setIfInBounds_toArray, List.set_cons_zero, List.set_cons_succ]
          refine wpAnyG_pure (i := 14) (oi := { dst := some 54, op := Op.move (Operand.tmp 4), type := 3, pos := _, after := #[{ on := 7, ground := Ground.guard }], guard := some (7, false) }) (v := ?_) rfl (by kernel_rfl) (by kernel_rfl) (by kernel_rfl) (by kernel_rfl) (fun _ _ _ h => h) (Or.inl ⟨by rfl, ?_⟩) (fun _ => by assumption) ?_
          rotate_left
          · intro w hSw
            try dsimp only at hSw
            go_simp
            try with_reducible rfl
          try simp only [Act.put, List.setIfInBounds_toArray, List.set_cons_zero, List.set_cons_succ]
          refine wpAnyG_pure (i := 15) (oi := { dst := some 55, op := Op.slice 22 (Operand.tmp 53) none (some (Operand.tmp 54)) none, type := 22, pos := _, after := #[{ on := 13, ground := Ground.data }, { on := 14, ground := Ground.data }, { on := 7, ground := Ground.guard }], guard := some (7, false) }) (v := ?_) rfl (by kernel_rfl) (by kernel_rfl) (by kernel_rfl) (by kernel_rfl) (fun _ _ _ h => h) (Or.inl ⟨by rfl, ?_⟩) (fun _ => by assumption) ?_
          rotate_left
          · intro w hSw
            try dsimp only at hSw
            go_simp
            try with_reducible rfl
          try simp only [Act.put, List.setIfInBounds_toArray, List.set_cons_zero, List.set_cons_succ]
          refine wpAnyG_one (i := 11) (o := { dst := some 51, op := Op.call { callee := Callee.value (Operand.func 41), args := #[Operand.tmp 50], argTypes := #[22] }, type := 66, pos := _, after := #[{ on := 10, ground := Ground.data }, { on := 7, ground := Ground.chain }, { on := 7, ground := Ground.guard }], guard := some (7, false) }) (by kernel_rfl) rfl (fun K hK => ?_)
          go_simp
          refine (K3.out _ hHeld.1).mono ?_
          rintro z w9 ⟨p2, rfl, hr, h⟩
          have HR2 := Lib.hid hr
          clear hr
          try dsimp only
          refine hK.out _ _ ?_ (fun hHeld => ?_)
          · intro _
            try dsimp only
            exact ⟨h, KC.out _ h⟩
          clear hK K
          try simp only [Act.put, List.setIfInBounds_toArray, List.set_cons_zero, List.set_cons_succ]
          have hHeld := hHeld (by kernel_rfl)
          refine wpAnyG_one (i := 12) (o := { dst := some 52, op := Op.call { callee := Callee.value (Operand.func 46), args := #[Operand.tmp 51], argTypes := #[66] }, type := 56, pos := _, after := #[{ on := 11, ground := Ground.data }, { on := 11, ground := Ground.chain }, { on := 7, ground := Ground.guard }], guard := some (7, false) }) (by kernel_rfl) rfl (fun K hK => ?_)
          go_simp
          refine (K4.out _ _ HR2.out hHeld.1).mono ?_
          rintro z w10 ⟨rfl, h⟩
          try dsimp only
          refine hK.out _ _ ?_ (fun hHeld => ?_)
          · intro _
            try dsimp only
            exact ⟨h, KC.out _ h⟩
          clear hK K
          try simp only [Act.put, List.setIfInBounds_toArray, List.set_cons_zero, List.set_cons_succ]
          have hHeld := hHeld (by kernel_rfl)
          refine wpAnyG_one (i := 16) (o := { dst := some 56, op := Op.call { callee := Callee.value (Operand.func 27), args := #[Operand.tmp 55], argTypes := #[22] }, type := 56, pos := _, after := #[{ on := 15, ground := Ground.data }, { on := 12, ground := Ground.chain }, { on := 7, ground := Ground.guard }], guard := some (7, false) }) (by kernel_rfl) rfl (fun K hK => ?_)
          go_simp
          refine (K5.out _ hHeld.1).mono ?_
          rintro z w9 ⟨rfl, h⟩
          try dsimp only
          refine hK.out _ _ ?_ (fun hHeld => ?_)
          · intro _
            try dsimp only
            exact ⟨h, KC.out _ h⟩
          clear hK K
          try simp only [Act.put, List.setIfInBounds_toArray, List.set_cons_zero, List.set_cons_succ]
          have hHeld := hHeld (by kernel_rfl)
          refine wpAnyG_pure (i := 17) (oi := { dst := some 57, op := Op.binOp BinOp.neq 56 (Operand.tmp 52) (Operand.tmp 56) 56, type := 4, pos := _, after := #[{ on := 12, ground := Ground.data }, { on := 16, ground := Ground.data }, { on := 7, ground := Ground.guard }], guard := some (7, false) }) (v := ?_) rfl (by kernel_rfl) (by kernel_rfl) (by kernel_rfl) (by kernel_rfl) (fun _ _ _ h => h) (Or.inl ⟨by rfl, ?_⟩) (fun _ => by assumption) ?_
          rotate_left
          · intro w hSw
            try dsimp only at hSw
            go_simp
            try with_reducible rfl
          try simp only [Act.put, List.setIfInBounds_toArray, List.set_cons_zero, List.set_cons_succ]
          refine wpAnyG_pure (i := 18) (oi := { dst := some 58, op := Op.pick (Operand.tmp 47) (Operand.const (Value.bool true)) (Operand.tmp 57), type := 4, pos := _, after := #[{ on := 7, ground := Ground.data }, { on := 17, ground := Ground.data }], guard := none }) (v := ?_) rfl (by kernel_rfl) (by kernel_rfl) (by kernel_rfl) (by kernel_rfl) (fun _ _ _ h => h) (Or.inl ⟨by rfl, ?_⟩) (fun _ => by assumption) ?_
          rotate_left
          · intro w hSw
            try dsimp only at hSw
            go_simp
            try with_reducible rfl
          try simp only [Act.put, List.setIfInBounds_toArray, List.set_cons_zero, List.set_cons_succ]
          refine wpAnyG_pure (i := 19) (oi := { dst := some 59, op := Op.move (Operand.tmp 58), type := 4, pos := _, after := #[{ on := 18, ground := Ground.data }, { on := 16, ground := Ground.chain }], guard := none }) (v := ?_) rfl (by kernel_rfl) (by kernel_rfl) (by kernel_rfl) (by kernel_rfl) (fun _ _ _ h => h) (Or.inl ⟨by rfl, ?_⟩) (fun _ => by assumption) ?_
          rotate_left
          · intro w hSw
            try dsimp only at hSw
            go_simp
            try with_reducible rfl
          try simp only [Act.put, List.setIfInBounds_toArray, List.set_cons_zero, List.set_cons_succ]
          refine wpAnyG_take (i := 20) (oi := { dst := some 60, op := Op.load 24 (Operand.tmp 6), type := 24, pos := _, after := #[{ on := 19, ground := Ground.guard }], guard := some (19, false) }) (v := ?_) rfl (by kernel_rfl) (by kernel_rfl) (by kernel_rfl) (by kernel_rfl) (fun _ _ _ h => h) (Or.inl ⟨by rfl, ?_⟩) (by assumption) ?_
          rotate_left
          · intro w hSw
            try dsimp only at hSw
            go_simp
            try with_reducible rfl
          try simp only [Act.put, List.setIfInBounds_toArray, List.set_cons_zero, List.set_cons_succ]
          refine wpAnyG_one (i := 21) (o := { dst := some 61, op := Op.call { callee := Callee.value (Operand.func 14), args := #[Operand.tmp 60], argTypes := #[24] }, type := 4, pos := _, after := #[{ on := 20, ground := Ground.data }, { on := 19, ground := Ground.chain }, { on := 19, ground := Ground.guard }], guard := some (19, false) }) (by kernel_rfl) rfl (fun K hK => ?_)
          go_simp
          refine (K6.out _ hHeld.1).mono ?_
          rintro z w9 ⟨rfl, h⟩
          try dsimp only
          refine hK.out _ _ ?_ (fun hHeld => ?_)
          · intro _
            try dsimp only
            exact ⟨h, KC.out _ h⟩
          clear hK K
          try simp only [Act.put, List.setIfInBounds_toArray, List.set_cons_zero, List.set_cons_succ]
          have hHeld := hHeld (by kernel_rfl)
          refine wpAnyG_pure (i := 22) (oi := { dst := some 62, op := Op.unOp UnOp.not 4 (Operand.tmp 61), type := 4, pos := _, after := #[{ on := 21, ground := Ground.data }, { on := 19, ground := Ground.guard }], guard := some (19, false) }) (v := ?_) rfl (by kernel_rfl) (by kernel_rfl) (by kernel_rfl) (by kernel_rfl) (fun _ _ _ h => h) (Or.inl ⟨by rfl, ?_⟩) (fun _ => by assumption) ?_
          rotate_left
          · intro w hSw
            try dsimp only at hSw
            go_simp
            try with_reducible rfl
          try simp only [Act.put, List.setIfInBounds_toArray, List.set_cons_zero, List.set_cons_succ]
          refine wpAnyG_pure (i := 23) (oi := { dst := some 63, op := Op.pick (Operand.tmp 59) (Operand.const (Value.bool true)) (Operand.tmp 62), type := 4, pos := _, after := #[{ on := 19, ground := Ground.data }, { on := 22, ground := Ground.data }], guard := none }) (v := ?_) rfl (by kernel_rfl) (by kernel_rfl) (by kernel_rfl) (by kernel_rfl) (fun _ _ _ h => h) (Or.inl ⟨by rfl, ?_⟩) (fun _ => by assumption) ?_
          rotate_left
          · intro w hSw
            try dsimp only at hSw
            go_simp
            try with_reducible rfl
          try simp only [Act.put, List.setIfInBounds_toArray, List.set_cons_zero, List.set_cons_succ]
          refine wpAnyG_done (by kernel_rfl) ?_ _
          refine NoPanic.normal ?_
          have hz := hHeld.1
          obtain ⟨g0, g1, g2, g3⟩ := hHeld.2
          have HW := Lib.hid hz
          have hr0 := H15.out.1.r0.keep hz
          obtain ⟨x0, x1, x2, x3⟩ := cells4 hr0
          have y0 := hr0.frozen 0
          have y1 := hr0.frozen 1
          have y2 := hr0.frozen 2
          have y3 := hr0.frozen 3
          clear hHeld hz hr0
          go_wp2_with fail
          refine bodyPost_ret (v := .tuple #[.agg #[.slice A1 kl c1, .int .i64 vr, .int .i64 (v4 : Int), .slice B1 rl d1], .int .i64 0]) (by simp [results, Try.results20, go_sem, x0, x1, x2, x3]) rfl ⟨?_, ?_⟩
          · have hsh := rdOk_share HE.out.2.2.1 (show rdOk l t = true from by unfold rdOk; rw [HLF.out, HFF.out, HXW.out, HYW.out, HMM.out]; simp)
            rw [← HE.out.1] at hsh
            refine .inl ⟨rd l, A1, c1, B1, d1, hsh, ?_, ?_, ?_⟩
            · show _ = Ending.returned (.tuple #[.agg #[.slice A1 (gkey l).length c1, .int .i64 (sgn (gver l)), .int .i64 ((gnode l : Nat) : Int), .slice B1 (grow l).length d1], .int .i64 0])
              rw [HKL.out, HRL.out, HV3.out, HV4.out, HVR.out]
            · exact own_far4 (H15.out.2.2.keep HW.out) (H15.out.1.r0.keep HW.out) _ _ _ _
            · exact own_far4 (H15.out.2.1.keep HW.out) (H15.out.1.r0.keep HW.out) _ _ _ _
          · exact ((((next H15.out.1.below HW.out).setCell (p := ⟨w.heap.size, 0, none⟩) (Nat.le_refl _) _).setCell (p := ⟨w.heap.size, 1, none⟩) (Nat.le_refl _) _).setCell (p := ⟨w.heap.size, 2, none⟩) (Nat.le_refl _) _).setCell (p := ⟨w.heap.size, 3, none⟩) (Nat.le_refl _) _
      · have hx0 : ((xw : Int) == (yw : Int)) = false := by simp; omega
        have hx1 : ((xw : Int) != (yw : Int)) = true := by simp; omega
        have hx3 : ¬ ((xw : Int) = (yw : Int)) := by omega
        have HXY := Lib.hid hxy
        go_wp2_with fail
        refine wp_region_noPanic ?_
        refine wp_heldG (fun W => Below w15.heap.size w15 W ∧ (W.cell? ⟨g, 0, none⟩ = some (.slice A1 kl c1) ∧ W.cell? ⟨g, 1, none⟩ = some (.int .i64 vr) ∧ W.cell? ⟨g, 2, none⟩ = some (.int .i64 (v4 : Int)) ∧ W.cell? ⟨g, 3, none⟩ = some (.slice B1 rl d1))) [] (by kernel_rfl) ?hs0 ?rg0
        case hs0 =>
          exact ⟨hT0, KC.out _ hT0⟩
        case rg0 =>
        intro hHeld
        refine wpAnyG_pure (i := 0) (oi := { dst := some 40, op := Op.move (Operand.tmp 5), type := 66, pos := _, after := #[], guard := none }) (v := ?_) rfl (by kernel_rfl) (by kernel_rfl) (by kernel_rfl) (by kernel_rfl) (fun _ _ _ h => h) (Or.inl ⟨by rfl, ?_⟩) (fun _ => by assumption) ?_
        rotate_left
        · intro w hSw
          try dsimp only at hSw
          go_simp
          try with_reducible rfl
        try simp only [Act.put, List.setIfInBounds_toArray, List.set_cons_zero, List.set_cons_succ]
        refine wpAnyG_one (i := 1) (o := { dst := some 41, op := Op.call { callee := Callee.value (Operand.func 47), args := #[Operand.tmp 40], argTypes := #[66] }, type := 4, pos := _, after := #[{ on := 0, ground := Ground.data }], guard := none }) (by kernel_rfl) rfl (fun K hK => ?_)
        go_simp
        refine (K1.out _ hHeld.1).mono ?_
        rintro z w9 ⟨rfl, h⟩
        try dsimp only
        refine hK.out _ _ ?_ (fun hHeld => ?_)
        · intro _
          try dsimp only
          exact ⟨h, KC.out _ h⟩
        clear hK K
        try simp only [Act.put, List.setIfInBounds_toArray, List.set_cons_zero, List.set_cons_succ]
        have hHeld := hHeld (by kernel_rfl)
        refine wpAnyG_pure (i := 2) (oi := { dst := some 42, op := Op.move (Operand.tmp 41), type := 4, pos := _, after := #[{ on := 1, ground := Ground.data }, { on := 1, ground := Ground.chain }], guard := none }) (v := ?_) rfl (by kernel_rfl) (by kernel_rfl) (by kernel_rfl) (by kernel_rfl) (fun _ _ _ h => h) (Or.inl ⟨by rfl, ?_⟩) (fun _ => by assumption) ?_
        rotate_left
        · intro w hSw
          try dsimp only at hSw
          go_simp
          try with_reducible rfl
        try simp only [Act.put, List.setIfInBounds_toArray, List.set_cons_zero, List.set_cons_succ]
        refine wpAnyG_pure (i := 3) (oi := { dst := some 43, op := Op.move (Operand.tmp 5), type := 66, pos := _, after := #[{ on := 2, ground := Ground.guard }], guard := some (2, false) }) (v := ?_) rfl (by kernel_rfl) (by kernel_rfl) (by kernel_rfl) (by kernel_rfl) (fun _ _ _ h => h) (Or.inl ⟨by rfl, ?_⟩) (fun _ => by assumption) ?_
        rotate_left
        · intro w hSw
          try dsimp only at hSw
          go_simp
          try with_reducible rfl
        try simp only [Act.put, List.setIfInBounds_toArray, List.set_cons_zero, List.set_cons_succ]
        refine wpAnyG_one (i := 4) (o := { dst := some 44, op := Op.call { callee := Callee.value (Operand.func 48), args := #[Operand.tmp 43], argTypes := #[66] }, type := 3, pos := _, after := #[{ on := 3, ground := Ground.data }, { on := 2, ground := Ground.chain }, { on := 2, ground := Ground.guard }], guard := some (2, false) }) (by kernel_rfl) rfl (fun K hK => ?_)
        go_simp
        refine (K2.out _ hHeld.1).mono ?_
        rintro z w9 ⟨rfl, h⟩
        try dsimp only
        refine hK.out _ _ ?_ (fun hHeld => ?_)
        · intro _
          try dsimp only
          exact ⟨h, KC.out _ h⟩
        clear hK K
        try simp only [Act.put, List.setIfInBounds_toArray, List.set_cons_zero, List.set_cons_succ]
        have hHeld := hHeld (by kernel_rfl)
        refine wpAnyG_pure (i := 5) (oi := { dst := some 45, op := Op.binOp BinOp.gtr 3 (Operand.tmp 44) (Operand.const (Value.int IntKind.i64 0)) 3, type := 4, pos := _, after := #[{ on := 4, ground := Ground.data }, { on := 2, ground := Ground.guard }], guard := some (2, false) }) (v := ?_) rfl (by kernel_rfl) (by kernel_rfl) (by kernel_rfl) (by kernel_rfl) (fun _ _ _ h => h) (Or.inl ⟨by rfl, ?_⟩) (fun _ => by assumption) ?_
        rotate_left
        · intro w hSw
          try dsimp only at hSw
          go_simp
          try with_reducible rfl
        try simp only [Act.put, List.setIfInBounds_toArray, List.set_cons_zero, List.set_cons_succ]
        refine wpAnyG_pure (i := 6) (oi := { dst := some 46, op := Op.pick (Operand.tmp 42) (Operand.const (Value.bool true)) (Operand.tmp 45), type := 4, pos := _, after := #[{ on := 2, ground := Ground.data }, { on := 5, ground := Ground.data }], guard := none }) (v := ?_) rfl (by kernel_rfl) (by kernel_rfl) (by kernel_rfl) (by kernel_rfl) (fun _ _ _ h => h) (Or.inl ⟨by rfl, ?_⟩) (fun _ => by assumption) ?_
        rotate_left
        · intro w hSw
          try dsimp only at hSw
          go_simp
          try with_reducible rfl
        try simp only [Act.put, List.setIfInBounds_toArray, List.set_cons_zero, List.set_cons_succ]
        refine wpAnyG_pure (i := 7) (oi := { dst := some 47, op := Op.move (Operand.tmp 46), type := 4, pos := _, after := #[{ on := 6, ground := Ground.data }, { on := 4, ground := Ground.chain }], guard := none }) (v := ?_) rfl (by kernel_rfl) (by kernel_rfl) (by kernel_rfl) (by kernel_rfl) (fun _ _ _ h => h) (Or.inl ⟨by rfl, ?_⟩) (fun _ => by assumption) ?_
        rotate_left
        · intro w hSw
          try dsimp only at hSw
          go_simp
          try with_reducible rfl
        try simp only [Act.put, List.setIfInBounds_toArray, List.set_cons_zero, List.set_cons_succ]
        refine wpAnyG_pure (i := 8) (oi := { dst := some 48, op := Op.move (Operand.tmp 0), type := 22, pos := _, after := #[{ on := 7, ground := Ground.guard }], guard := some (7, false) }) (v := ?_) rfl (by kernel_rfl) (by kernel_rfl) (by kernel_rfl) (by kernel_rfl) (fun _ _ _ h => h) (Or.inl ⟨by rfl, ?_⟩) (fun _ => by assumption) ?_
        rotate_left
        · intro w hSw
          try dsimp only at hSw
          go_simp
          try with_reducible rfl
        try simp only [Act.put, List.setIfInBounds_toArray, List.set_cons_zero, List.set_cons_succ]
        refine wpAnyG_pure (i := 9) (oi := { dst := some 49, op := Op.move (Operand.tmp 4), type := 3, pos := _, after := #[{ on := 7, ground := Ground.guard }], guard := some (7, false) }) (v := ?_) rfl (by kernel_rfl) (by kernel_rfl) (by kernel_rfl) (by kernel_rfl) (fun _ _ _ h => h) (Or.inl ⟨by rfl, ?_⟩) (fun _ => by assumption) ?_
        rotate_left
        · intro w hSw
          try dsimp only at hSw
          go_simp
          try with_reducible rfl
        try simp only [Act.put, List.setIfInBounds_toArray, List.set_cons_zero, List.set_cons_succ]
        refine wpAnyG_pure (i := 10) (oi := { dst := some 50, op := Op.slice 22 (Operand.tmp 48) (some (Operand.tmp 49)) none none, type := 22, pos := _, after := #[{ on := 8, ground := Ground.data }, { on := 9, ground := Ground.data }, { on := 7, ground := Ground.guard }], guard := some (7, false) }) (v := ?_) rfl (by kernel_rfl) (by kernel_rfl) (by kernel_rfl) (by kernel_rfl) (fun _ _ _ h => h) (Or.inl ⟨by rfl, ?_⟩) (fun _ => by assumption) ?_
        rotate_left
        · intro w hSw
          try dsimp only at hSw
          go_simp
          try with_reducible rfl
        try simp only [Act.put, List.setIfInBounds_toArray, List.set_cons_zero, List.set_cons_succ]
        refine wpAnyG_pure (i := 13) (oi := { dst := some 53, op := Op.move (Operand.tmp 0), type := 22, pos := _, after := #[{ on := 7, ground := Ground.guard }], guard := some (7, false) }) (v := ?_) rfl (by kernel_rfl) (by kernel_rfl) (by kernel_rfl) (by kernel_rfl) (fun _ _ _ h => h) (Or.inl ⟨by rfl, ?_⟩) (fun _ => by assumption) ?_
        rotate_left
        · intro w hSw
          try dsimp only at hSw
          go_simp
          try with_reducible rfl
        try simp only [Act.put, List.setIfInBounds_toArray, List.set_cons_zero, List.set_cons_succ]
        refine wpAnyG_pure (i := 14) (oi := { dst := some 54, op := Op.move (Operand.tmp 4), type := 3, pos := _, after := #[{ on := 7, ground := Ground.guard }], guard := some (7, false) }) (v := ?_) rfl (by kernel_rfl) (by kernel_rfl) (by kernel_rfl) (by kernel_rfl) (fun _ _ _ h => h) (Or.inl ⟨by rfl, ?_⟩) (fun _ => by assumption) ?_
        rotate_left
        · intro w hSw
          try dsimp only at hSw
          go_simp
          try with_reducible rfl
        try simp only [Act.put, List.setIfInBounds_toArray, List.set_cons_zero, List.set_cons_succ]
        refine wpAnyG_pure (i := 15) (oi := { dst := some 55, op := Op.slice 22 (Operand.tmp 53) none (some (Operand.tmp 54)) none, type := 22, pos := _, after := #[{ on := 13, ground := Ground.data }, { on := 14, ground := Ground.data }, { on := 7, ground := Ground.guard }], guard := some (7, false) }) (v := ?_) rfl (by kernel_rfl) (by kernel_rfl) (by kernel_rfl) (by kernel_rfl) (fun _ _ _ h => h) (Or.inl ⟨by rfl, ?_⟩) (fun _ => by assumption) ?_
        rotate_left
        · intro w hSw
          try dsimp only at hSw
          go_simp
          try with_reducible rfl
        try simp only [Act.put, List.setIfInBounds_toArray, List.set_cons_zero, List.set_cons_succ]
        refine wpAnyG_one (i := 11) (o := { dst := some 51, op := Op.call { callee := Callee.value (Operand.func 41), args := #[Operand.tmp 50], argTypes := #[22] }, type := 66, pos := _, after := #[{ on := 10, ground := Ground.data }, { on := 7, ground := Ground.chain }, { on := 7, ground := Ground.guard }], guard := some (7, false) }) (by kernel_rfl) rfl (fun K hK => ?_)
        go_simp
        refine (K3.out _ hHeld.1).mono ?_
        rintro z w9 ⟨p2, rfl, hr, h⟩
        have HR2 := Lib.hid hr
        clear hr
        try dsimp only
        refine hK.out _ _ ?_ (fun hHeld => ?_)
        · intro _
          try dsimp only
          exact ⟨h, KC.out _ h⟩
        clear hK K
        try simp only [Act.put, List.setIfInBounds_toArray, List.set_cons_zero, List.set_cons_succ]
        have hHeld := hHeld (by kernel_rfl)
        refine wpAnyG_one (i := 12) (o := { dst := some 52, op := Op.call { callee := Callee.value (Operand.func 46), args := #[Operand.tmp 51], argTypes := #[66] }, type := 56, pos := _, after := #[{ on := 11, ground := Ground.data }, { on := 11, ground := Ground.chain }, { on := 7, ground := Ground.guard }], guard := some (7, false) }) (by kernel_rfl) rfl (fun K hK => ?_)
        go_simp
        refine (K4.out _ _ HR2.out hHeld.1).mono ?_
        rintro z w10 ⟨rfl, h⟩
        try dsimp only
        refine hK.out _ _ ?_ (fun hHeld => ?_)
        · intro _
          try dsimp only
          exact ⟨h, KC.out _ h⟩
        clear hK K
        try simp only [Act.put, List.setIfInBounds_toArray, List.set_cons_zero, List.set_cons_succ]
        have hHeld := hHeld (by kernel_rfl)
        refine wpAnyG_one (i := 16) (o := { dst := some 56, op := Op.call { callee := Callee.value (Operand.func 27), args := #[Operand.tmp 55], argTypes := #[22] }, type := 56, pos := _, after := #[{ on := 15, ground := Ground.data }, { on := 12, ground := Ground.chain }, { on := 7, ground := Ground.guard }], guard := some (7, false) }) (by kernel_rfl) rfl (fun K hK => ?_)
        go_simp
        refine (K5.out _ hHeld.1).mono ?_
        rintro z w9 ⟨rfl, h⟩
        try dsimp only
        refine hK.out _ _ ?_ (fun hHeld => ?_)
        · intro _
          try dsimp only
          exact ⟨h, KC.out _ h⟩
        clear hK K
        try simp only [Act.put, List.setIfInBounds_toArray, List.set_cons_zero, List.set_cons_succ]
        have hHeld := hHeld (by kernel_rfl)
        refine wpAnyG_pure (i := 17) (oi := { dst := some 57, op := Op.binOp BinOp.neq 56 (Operand.tmp 52) (Operand.tmp 56) 56, type := 4, pos := _, after := #[{ on := 12, ground := Ground.data }, { on := 16, ground := Ground.data }, { on := 7, ground := Ground.guard }], guard := some (7, false) }) (v := ?_) rfl (by kernel_rfl) (by kernel_rfl) (by kernel_rfl) (by kernel_rfl) (fun _ _ _ h => h) (Or.inl ⟨by rfl, ?_⟩) (fun _ => by assumption) ?_
        rotate_left
        · intro w hSw
          try dsimp only at hSw
          go_simp
          try with_reducible rfl
        try simp only [Act.put, List.setIfInBounds_toArray, List.set_cons_zero, List.set_cons_succ]
        refine wpAnyG_pure (i := 18) (oi := { dst := some 58, op := Op.pick (Operand.tmp 47) (Operand.const (Value.bool true)) (Operand.tmp 57), type := 4, pos := _, after := #[{ on := 7, ground := Ground.data }, { on := 17, ground := Ground.data }], guard := none }) (v := ?_) rfl (by kernel_rfl) (by kernel_rfl) (by kernel_rfl) (by kernel_rfl) (fun _ _ _ h => h) (Or.inl ⟨by rfl, ?_⟩) (fun _ => by assumption) ?_
        rotate_left
        · intro w hSw
          try dsimp only at hSw
          go_simp
          try with_reducible rfl
        try simp only [Act.put, List.setIfInBounds_toArray, List.set_cons_zero, List.set_cons_succ]
        refine wpAnyG_pure (i := 19) (oi := { dst := some 59, op := Op.move (Operand.tmp 58), type := 4, pos := _, after := #[{ on := 18, ground := Ground.data }, { on := 16, ground := Ground.chain }], guard := none }) (v := ?_) rfl (by kernel_rfl) (by kernel_rfl) (by kernel_rfl) (by kernel_rfl) (fun _ _ _ h => h) (Or.inl ⟨by rfl, ?_⟩) (fun _ => by assumption) ?_
        rotate_left
        · intro w hSw
          try dsimp only at hSw
          go_simp
          try with_reducible rfl
        try simp only [Act.put, List.setIfInBounds_toArray, List.set_cons_zero, List.set_cons_succ]
        refine wpAnyG_pure (i := 20) (oi := { dst := some 60, op := Op.load 24 (Operand.tmp 6), type := 24, pos := _, after := #[{ on := 19, ground := Ground.guard }], guard := some (19, false) }) (v := undef) rfl (by kernel_rfl) (by kernel_rfl) (by kernel_rfl) (by kernel_rfl) (fun _ _ _ h => h) (Or.inr ⟨by rfl, rfl⟩) (fun _ => by assumption) ?_
        try simp only [Act.put, List.setIfInBounds_toArray, List.set_cons_zero, List.set_cons_succ]
        refine wpAnyG_pure (i := 21) (oi := { dst := some 61, op := Op.call { callee := Callee.value (Operand.func 14), args := #[Operand.tmp 60], argTypes := #[24] }, type := 4, pos := _, after := #[{ on := 20, ground := Ground.data }, { on := 19, ground := Ground.chain }, { on := 19, ground := Ground.guard }], guard := some (19, false) }) (v := undef) rfl (by kernel_rfl) (by kernel_rfl) (by kernel_rfl) (by kernel_rfl) (fun _ _ _ h => h) (Or.inr ⟨by rfl, rfl⟩) (fun _ => by assumption) ?_
        try simp only [Act.put, List.setIfInBounds_toArray, List.set_cons_zero, List.set_cons_succ]
        refine wpAnyG_pure (i := 22) (oi := { dst := some 62, op := Op.unOp UnOp.not 4 (Operand.tmp 61), type := 4, pos := _, after := #[{ on := 21, ground := Ground.data }, { on := 19, ground := Ground.guard }], guard := some (19, false) }) (v := undef) rfl (by kernel_rfl) (by kernel_rfl) (by kernel_rfl) (by kernel_rfl) (fun _ _ _ h => h) (Or.inr ⟨by rfl, rfl⟩) (fun _ => by assumption) ?_
        try simp only [Act.put, List.setIfInBounds_toArray, List.set_cons_zero, List.set_cons_succ]
        refine wpAnyG_pure (i := 23) (oi := { dst := some 63, op := Op.pick (Operand.tmp 59) (Operand.const (Value.bool true)) (Operand.tmp 62), type := 4, pos := _, after := #[{ on := 19, ground := Ground.data }, { on := 22, ground := Ground.data }], guard := none }) (v := ?_) rfl (by kernel_rfl) (by kernel_rfl) (by kernel_rfl) (by kernel_rfl) (fun _ _ _ h => h) (Or.inl ⟨by rfl, ?_⟩) (fun _ => by assumption) ?_
        rotate_left
        · intro w hSw
          try dsimp only at hSw
          go_simp
          try with_reducible rfl
        try simp only [Act.put, List.setIfInBounds_toArray, List.set_cons_zero, List.set_cons_succ]
        refine wpAnyG_done (by kernel_rfl) ?_ _
        refine NoPanic.normal ?_
        have hz := hHeld.1
        have HW := Lib.hid hz
        have hr0 := H15.out.1.r0.keep hz
        obtain ⟨x0, x1, x2, x3⟩ := cells4 hr0
        have y0 := hr0.frozen 0
        have y1 := hr0.frozen 1
        have y2 := hr0.frozen 2
        have y3 := hr0.frozen 3
        clear hHeld hz hr0
        go_wp2_with fail
        refine bodyPost_ret (v := .tuple #[.agg #[.slice none 0 0, .int .i64 0, .int .i64 0, .slice none 0 0], .int .i64 160]) (by simp [results, Try.results20, go_sem, x0, x1, x2, x3]) rfl ⟨?_, ?_⟩
        · refine .inr ⟨fun s hs => ?_, rfl⟩
          rw [HE.out.1] at hs
          have hk := (share_rdOk HE.out.2.2.1 hs).1
          unfold rdOk at hk
          rw [HXW.out, HYW.out] at hk
          simp [HXY.out] at hk
        · exact ((((next H15.out.1.below HW.out).setCell (p := ⟨w.heap.size, 0, none⟩) (Nat.le_refl _) _).setCell (p := ⟨w.heap.size, 1, none⟩) (Nat.le_refl _) _).setCell (p := ⟨w.heap.size, 2, none⟩) (Nat.le_refl _) _).setCell (p := ⟨w.heap.size, 3, none⟩) (Nat.le_refl _) _
    · have hl0 : (0 : Int) < (lf : Int) := by omega
      have hl1 : decide ((0 : Int) < (lf : Int)) = true := decide_eq_true hl0
      have HL0 := Lib.hid hlf
      have hl2 : 0 < lf := by omega
      have hl3 : decide (0 < lf) = true := decide_eq_true hl2
      go_wp2_with fail
      refine wp_region_noPanic ?_
      refine wp_heldG (fun W => Below w15.heap.size w15 W ∧ (W.cell? ⟨g, 0, none⟩ = some (.slice A1 kl c1) ∧ W.cell? ⟨g, 1, none⟩ = some (.int .i64 vr) ∧ W.cell? ⟨g, 2, none⟩ = some (.int .i64 (v4 : Int)) ∧ W.cell? ⟨g, 3, none⟩ = some (.slice B1 rl d1))) [] (by kernel_rfl) ?hs0 ?rg0
      case hs0 =>
        exact ⟨hT0, KC.out _ hT0⟩
      case rg0 =>
      intro hHeld
      refine wpAnyG_pure (i := 0) (oi := { dst := some 40, op := Op.move (Operand.tmp 5), type := 66, pos := _, after := #[], guard := none }) (v := ?_) rfl (by kernel_rfl) (by kernel_rfl) (by kernel_rfl) (by kernel_rfl) (fun _ _ _ h => h) (Or.inl ⟨by rfl, ?_⟩) (fun _ => by assumption) ?_
      rotate_left
      · intro w hSw
        try dsimp only at hSw
        go_simp
        try with_reducible rfl
      try simp only [Act.put, List.setIfInBounds_toArray, List.set_cons_zero, List.set_cons_succ]
      refine wpAnyG_one (i := 1) (o := { dst := some 41, op := Op.call { callee := Callee.value (Operand.func 47), args := #[Operand.tmp 40], argTypes := #[66] }, type := 4, pos := _, after := #[{ on := 0, ground := Ground.data }], guard := none }) (by kernel_rfl) rfl (fun K hK => ?_)
      go_simp
      refine (K1.out _ hHeld.1).mono ?_
      rintro z w9 ⟨rfl, h⟩
      try dsimp only
      refine hK.out _ _ ?_ (fun hHeld => ?_)
      · intro _
        try dsimp only
        exact ⟨h, KC.out _ h⟩
      clear hK K
      try simp only [Act.put, List.setIfInBounds_toArray, List.set_cons_zero, List.set_cons_succ]
      have hHeld := hHeld (by kernel_rfl)
      refine wpAnyG_pure (i := 2) (oi := { dst := some 42, op := Op.move (Operand.tmp 41), type := 4, pos := _, after := #[{ on := 1, ground := Ground.data }, { on := 1, ground := Ground.chain }], guard := none }) (v := ?_) rfl (by kernel_rfl) (by kernel_rfl) (by kernel_rfl) (by kernel_rfl) (fun _ _ _ h => h) (Or.inl ⟨by rfl, ?_⟩) (fun _ => by assumption) ?_
      rotate_left
      · intro w hSw
        try dsimp only at hSw
        go_simp
        try with_reducible rfl
      try simp only [Act.put, List.setIfInBounds_toArray, List.set_cons_zero, List.set_cons_succ]
      refine wpAnyG_pure (i := 3) (oi := { dst := some 43, op := Op.move (Operand.tmp 5), type := 66, pos := _, after := #[{ on := 2, ground := Ground.guard }], guard := some (2, false) }) (v := ?_) rfl (by kernel_rfl) (by kernel_rfl) (by kernel_rfl) (by kernel_rfl) (fun _ _ _ h => h) (Or.inl ⟨by rfl, ?_⟩) (fun _ => by assumption) ?_
      rotate_left
      · intro w hSw
        try dsimp only at hSw
        go_simp
        try with_reducible rfl
      try simp only [Act.put, List.setIfInBounds_toArray, List.set_cons_zero, List.set_cons_succ]
      refine wpAnyG_one (i := 4) (o := { dst := some 44, op := Op.call { callee := Callee.value (Operand.func 48), args := #[Operand.tmp 43], argTypes := #[66] }, type := 3, pos := _, after := #[{ on := 3, ground := Ground.data }, { on := 2, ground := Ground.chain }, { on := 2, ground := Ground.guard }], guard := some (2, false) }) (by kernel_rfl) rfl (fun K hK => ?_)
      go_simp
      refine (K2.out _ hHeld.1).mono ?_
      rintro z w9 ⟨rfl, h⟩
      try dsimp only
      refine hK.out _ _ ?_ (fun hHeld => ?_)
      · intro _
        try dsimp only
        exact ⟨h, KC.out _ h⟩
      clear hK K
      try simp only [Act.put, List.setIfInBounds_toArray, List.set_cons_zero, List.set_cons_succ]
      have hHeld := hHeld (by kernel_rfl)
      refine wpAnyG_pure (i := 5) (oi := { dst := some 45, op := Op.binOp BinOp.gtr 3 (Operand.tmp 44) (Operand.const (Value.int IntKind.i64 0)) 3, type := 4, pos := _, after := #[{ on := 4, ground := Ground.data }, { on := 2, ground := Ground.guard }], guard := some (2, false) }) (v := ?_) rfl (by kernel_rfl) (by kernel_rfl) (by kernel_rfl) (by kernel_rfl) (fun _ _ _ h => h) (Or.inl ⟨by rfl, ?_⟩) (fun _ => by assumption) ?_
      rotate_left
      · intro w hSw
        try dsimp only at hSw
        go_simp
        try with_reducible rfl
      try simp only [Act.put, List.setIfInBounds_toArray, List.set_cons_zero, List.set_cons_succ]
      refine wpAnyG_pure (i := 6) (oi := { dst := some 46, op := Op.pick (Operand.tmp 42) (Operand.const (Value.bool true)) (Operand.tmp 45), type := 4, pos := _, after := #[{ on := 2, ground := Ground.data }, { on := 5, ground := Ground.data }], guard := none }) (v := ?_) rfl (by kernel_rfl) (by kernel_rfl) (by kernel_rfl) (by kernel_rfl) (fun _ _ _ h => h) (Or.inl ⟨by rfl, ?_⟩) (fun _ => by assumption) ?_
      rotate_left
      · intro w hSw
        try dsimp only at hSw
        go_simp
        try with_reducible rfl
      try simp only [Act.put, List.setIfInBounds_toArray, List.set_cons_zero, List.set_cons_succ]
      refine wpAnyG_pure (i := 7) (oi := { dst := some 47, op := Op.move (Operand.tmp 46), type := 4, pos := _, after := #[{ on := 6, ground := Ground.data }, { on := 4, ground := Ground.chain }], guard := none }) (v := ?_) rfl (by kernel_rfl) (by kernel_rfl) (by kernel_rfl) (by kernel_rfl) (fun _ _ _ h => h) (Or.inl ⟨by rfl, ?_⟩) (fun _ => by assumption) ?_
      rotate_left
      · intro w hSw
        try dsimp only at hSw
        go_simp
        try with_reducible rfl
      try simp only [Act.put, List.setIfInBounds_toArray, List.set_cons_zero, List.set_cons_succ]
      refine wpAnyG_pure (i := 8) (oi := { dst := some 48, op := Op.move (Operand.tmp 0), type := 22, pos := _, after := #[{ on := 7, ground := Ground.guard }], guard := some (7, false) }) (v := undef) rfl (by kernel_rfl) (by kernel_rfl) (by kernel_rfl) (by kernel_rfl) (fun _ _ _ h => h) (Or.inr ⟨by rfl, rfl⟩) (fun _ => by assumption) ?_
      try simp only [Act.put, List.setIfInBounds_toArray, List.set_cons_zero, List.set_cons_succ]
      refine wpAnyG_pure (i := 9) (oi := { dst := some 49, op := Op.move (Operand.tmp 4), type := 3, pos := _, after := #[{ on := 7, ground := Ground.guard }], guard := some (7, false) }) (v := undef) rfl (by kernel_rfl) (by kernel_rfl) (by kernel_rfl) (by kernel_rfl) (fun _ _ _ h => h) (Or.inr ⟨by rfl, rfl⟩) (fun _ => by assumption) ?_
      try simp only [Act.put, List.setIfInBounds_toArray, List.set_cons_zero, List.set_cons_succ]
      refine wpAnyG_pure (i := 10) (oi := { dst := some 50, op := Op.slice 22 (Operand.tmp 48) (some (Operand.tmp 49)) none none, type := 22, pos := _, after := #[{ on := 8, ground := Ground.data }, { on := 9, ground := Ground.data }, { on := 7, ground := Ground.guard }], guard := some (7, false) }) (v := undef) rfl (by kernel_rfl) (by kernel_rfl) (by kernel_rfl) (by kernel_rfl) (fun _ _ _ h => h) (Or.inr ⟨by rfl, rfl⟩) (fun _ => by assumption) ?_
      try simp only [Act.put, List.setIfInBounds_toArray, List.set_cons_zero, List.set_cons_succ]
      refine wpAnyG_pure (i := 11) (oi := { dst := some 51, op := Op.call { callee := Callee.value (Operand.func 41), args := #[Operand.tmp 50], argTypes := #[22] }, type := 66, pos := _, after := #[{ on := 10, ground := Ground.data }, { on := 7, ground := Ground.chain }, { on := 7, ground := Ground.guard }], guard := some (7, false) }) (v := undef) rfl (by kernel_rfl) (by kernel_rfl) (by kernel_rfl) (by kernel_rfl) (fun _ _ _ h => h) (Or.inr ⟨by rfl, rfl⟩) (fun _ => by assumption) ?_
      try simp only [Act.put, List.setIfInBounds_toArray, List.set_cons_zero, List.set_cons_succ]
      refine wpAnyG_pure (i := 12) (oi := { dst := some 52, op := Op.call { callee := Callee.value (Operand.func 46), args := #[Operand.tmp 51], argTypes := #[66] }, type := 56, pos := _, after := #[{ on := 11, ground := Ground.data }, { on := 11, ground := Ground.chain }, { on := 7, ground := Ground.guard }], guard := some (7, false) }) (v := undef) rfl (by kernel_rfl) (by kernel_rfl) (by kernel_rfl) (by kernel_rfl) (fun _ _ _ h => h) (Or.inr ⟨by rfl, rfl⟩) (fun _ => by assumption) ?_
      try simp only [Act.put, List.setIfInBounds_toArray, List.set_cons_zero, List.set_cons_succ]
      refine wpAnyG_pure (i := 13) (oi := { dst := some 53, op := Op.move (Operand.tmp 0), type := 22, pos := _, after := #[{ on := 7, ground := Ground.guard }], guard := some (7, false) }) (v := undef) rfl (by kernel_rfl) (by kernel_rfl) (by kernel_rfl) (by kernel_rfl) (fun _ _ _ h => h) (Or.inr ⟨by rfl, rfl⟩) (fun _ => by assumption) ?_
      try simp only [Act.put, List.setIfInBounds_toArray, List.set_cons_zero, List.set_cons_succ]
      refine wpAnyG_pure (i := 14) (oi := { dst := some 54, op := Op.move (Operand.tmp 4), type := 3, pos := _, after := #[{ on := 7, ground := Ground.guard }], guard := some (7, false) }) (v := undef) rfl (by kernel_rfl) (by kernel_rfl) (by kernel_rfl) (by kernel_rfl) (fun _ _ _ h => h) (Or.inr ⟨by rfl, rfl⟩) (fun _ => by assumption) ?_
      try simp only [Act.put, List.setIfInBounds_toArray, List.set_cons_zero, List.set_cons_succ]
      refine wpAnyG_pure (i := 15) (oi := { dst := some 55, op := Op.slice 22 (Operand.tmp 53) none (some (Operand.tmp 54)) none, type := 22, pos := _, after := #[{ on := 13, ground := Ground.data }, { on := 14, ground := Ground.data }, { on := 7, ground := Ground.guard }], guard := some (7, false) }) (v := undef) rfl (by kernel_rfl) (by kernel_rfl) (by kernel_rfl) (by kernel_rfl) (fun _ _ _ h => h) (Or.inr ⟨by rfl, rfl⟩) (fun _ => by assumption) ?_
      try simp only [Act.put, List.setIfInBounds_toArray, List.set_cons_zero, List.set_cons_succ]
      refine wpAnyG_pure (i := 16) (oi := { dst := some 56, op := Op.call { callee := Callee.value (Operand.func 27), args := #[Operand.tmp 55], argTypes := #[22] }, type := 56, pos := _, after := #[{ on := 15, ground := Ground.data }, { on := 12, ground := Ground.chain }, { on := 7, ground := Ground.guard }], guard := some (7, false) }) (v := undef) rfl (by kernel_rfl) (by kernel_rfl) (by kernel_rfl) (by kernel_rfl) (fun _ _ _ h => h) (Or.inr ⟨by rfl, rfl⟩) (fun _ => by assumption) ?_
      try simp only [Act.put, List.setIfInBounds_toArray, List.set_cons_zero, List.set_cons_succ]
      refine wpAnyG_pure (i := 17) (oi := { dst := some 57, op := Op.binOp BinOp.neq 56 (Operand.tmp 52) (Operand.tmp 56) 56, type := 4, pos := _, after := #[{ on := 12, ground := Ground.data }, { on := 16, ground := Ground.data }, { on := 7, ground := Ground.guard }], guard := some (7, false) }) (v := undef) rfl (by kernel_rfl) (by kernel_rfl) (by kernel_rfl) (by kernel_rfl) (fun _ _ _ h => h) (Or.inr ⟨by rfl, rfl⟩) (fun _ => by assumption) ?_
      try simp only [Act.put, List.setIfInBounds_toArray, List.set_cons_zero, List.set_cons_succ]
      refine wpAnyG_pure (i := 18) (oi := { dst := some 58, op := Op.pick (Operand.tmp 47) (Operand.const (Value.bool true)) (Operand.tmp 57), type := 4, pos := _, after := #[{ on := 7, ground := Ground.data }, { on := 17, ground := Ground.data }], guard := none }) (v := ?_) rfl (by kernel_rfl) (by kernel_rfl) (by kernel_rfl) (by kernel_rfl) (fun _ _ _ h => h) (Or.inl ⟨by rfl, ?_⟩) (fun _ => by assumption) ?_
      rotate_left
      · intro w hSw
        try dsimp only at hSw
        go_simp
        try with_reducible rfl
      try simp only [Act.put, List.setIfInBounds_toArray, List.set_cons_zero, List.set_cons_succ]
      refine wpAnyG_pure (i := 19) (oi := { dst := some 59, op := Op.move (Operand.tmp 58), type := 4, pos := _, after := #[{ on := 18, ground := Ground.data }, { on := 16, ground := Ground.chain }], guard := none }) (v := ?_) rfl (by kernel_rfl) (by kernel_rfl) (by kernel_rfl) (by kernel_rfl) (fun _ _ _ h => h) (Or.inl ⟨by rfl, ?_⟩) (fun _ => by assumption) ?_
      rotate_left
      · intro w hSw
        try dsimp only at hSw
        go_simp
        try with_reducible rfl
      try simp only [Act.put, List.setIfInBounds_toArray, List.set_cons_zero, List.set_cons_succ]
      refine wpAnyG_pure (i := 20) (oi := { dst := some 60, op := Op.load 24 (Operand.tmp 6), type := 24, pos := _, after := #[{ on := 19, ground := Ground.guard }], guard := some (19, false) }) (v := undef) rfl (by kernel_rfl) (by kernel_rfl) (by kernel_rfl) (by kernel_rfl) (fun _ _ _ h => h) (Or.inr ⟨by rfl, rfl⟩) (fun _ => by assumption) ?_
      try simp only [Act.put, List.setIfInBounds_toArray, List.set_cons_zero, List.set_cons_succ]
      refine wpAnyG_pure (i := 21) (oi := { dst := some 61, op := Op.call { callee := Callee.value (Operand.func 14), args := #[Operand.tmp 60], argTypes := #[24] }, type := 4, pos := _, after := #[{ on := 20, ground := Ground.data }, { on := 19, ground := Ground.chain }, { on := 19, ground := Ground.guard }], guard := some (19, false) }) (v := undef) rfl (by kernel_rfl) (by kernel_rfl) (by kernel_rfl) (by kernel_rfl) (fun _ _ _ h => h) (Or.inr ⟨by rfl, rfl⟩) (fun _ => by assumption) ?_
      try simp only [Act.put, List.setIfInBounds_toArray, List.set_cons_zero, List.set_cons_succ]
      refine wpAnyG_pure (i := 22) (oi := { dst := some 62, op := Op.unOp UnOp.not 4 (Operand.tmp 61), type := 4, pos := _, after := #[{ on := 21, ground := Ground.data }, { on := 19, ground := Ground.guard }], guard := some (19, false) }) (v := undef) rfl (by kernel_rfl) (by kernel_rfl) (by kernel_rfl) (by kernel_rfl) (fun _ _ _ h => h) (Or.inr ⟨by rfl, rfl⟩) (fun _ => by assumption) ?_
      try simp only [Act.put, List.setIfInBounds_toArray, List.set_cons_zero, List.set_cons_succ]
      refine wpAnyG_pure (i := 23) (oi := { dst := some 63, op := Op.pick (Operand.tmp 59) (Operand.const (Value.bool true)) (Operand.tmp 62), type := 4, pos := _, after := #[{ on := 19, ground := Ground.data }, { on := 22, ground := Ground.data }], guard := none }) (v := ?_) rfl (by kernel_rfl) (by kernel_rfl) (by kernel_rfl) (by kernel_rfl) (fun _ _ _ h => h) (Or.inl ⟨by rfl, ?_⟩) (fun _ => by assumption) ?_
      rotate_left
      · intro w hSw
        try dsimp only at hSw
        go_simp
        try with_reducible rfl
      try simp only [Act.put, List.setIfInBounds_toArray, List.set_cons_zero, List.set_cons_succ]
      refine wpAnyG_done (by kernel_rfl) ?_ _
      refine NoPanic.normal ?_
      have hz := hHeld.1
      have HW := Lib.hid hz
      have hr0 := H15.out.1.r0.keep hz
      obtain ⟨x0, x1, x2, x3⟩ := cells4 hr0
      have y0 := hr0.frozen 0
      have y1 := hr0.frozen 1
      have y2 := hr0.frozen 2
      have y3 := hr0.frozen 3
      clear hHeld hz hr0
      go_wp2_with fail
      refine bodyPost_ret (v := .tuple #[.agg #[.slice none 0 0, .int .i64 0, .int .i64 0, .slice none 0 0], .int .i64 160]) (by simp [results, Try.results20, go_sem, x0, x1, x2, x3]) rfl ⟨?_, ?_⟩
      · refine .inr ⟨fun s hs => ?_, rfl⟩
        rw [HE.out.1] at hs
        have hk := (share_rdOk HE.out.2.2.1 hs).1
        unfold rdOk at hk
        rw [HLF.out] at hk
        simp [HL0.out] at hk
      · exact ((((next H15.out.1.below HW.out).setCell (p := ⟨w.heap.size, 0, none⟩) (Nat.le_refl _) _).setCell (p := ⟨w.heap.size, 1, none⟩) (Nat.le_refl _) _).setCell (p := ⟨w.heap.size, 2, none⟩) (Nat.le_refl _) _).setCell (p := ⟨w.heap.size, 3, none⟩) (Nat.le_refl _) _
  --END GET10
theorem get_any (w : World) (A : Option Addr) (b : List UInt8) (n c : Nat) (hn : b.length = n) (hmx : n ≤ 2 * 256 ^ 2) (hcap : n ≤ c) (hA : Bytes w w.heap.size A b) : Calls Try.prog 20 #[.slice A n c] w (GetS w b) := by
  by_cases h4 : n < 4
  · exact get_short w A b n c hn h4 hA
  · exact get_long w A b n c hn (by omega) hmx hcap hA
end Go.Proofs.Ytlmcmcafbepjmaa.ShW
