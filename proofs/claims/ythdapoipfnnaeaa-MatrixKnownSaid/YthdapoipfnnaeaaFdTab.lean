/- A field's block: its tables, how the closure fills them; made. -/
import Derived.Test.YthdapoipfnnaeaaFdSync
namespace Go.Proofs.Ythdapoipfnnaeaa.FdW
open Go.RowKit Mem Gf
set_option linter.unusedVariables false

/-- The tables when k powers have been written. -/
def exT (k j : Nat) : Nat := if j % 255 < k then (pw j).toNat else 0
def lgT (k v : Nat) : Nat := if v ≠ 0 ∧ lgl.getD v 0 < k then lgl.getD v 0 else 0
def fcell (d m : Int) (k j : Nat) : Value :=
  if j < 3 then (if j = 0 then .int .u32 d else if j = 1 then .int .i32 m else .int .u32 0)
  else if j < 513 then .int .u8 (exT k (j - 3) : Nat) else .int .i64 (lgT k (j - 513) : Nat)
def fzero : Array Value := ((List.range 769).map (fcell 0 0 0)).toArray

/-- A field's block, cell by cell. -/
def FB (w : World) (p : Nat) (f : Nat → Value) : Prop :=
  ∃ cs, Blk w p 80 cs ∧ cs.size = 769 ∧ ∀ j, j < 769 → cs[j]? = some (f j)
section
variable {w w' : World} {p : Nat} {f g : Nat → Value} {S : Nat → Prop}
theorem FB.lt (h : FB w p f) : p < w.heap.size := by obtain ⟨cs, hb, _⟩ := h; exact hb.lt
theorem FB.cell (h : FB w p f) {j : Nat} (hj : j < 769) : w.cell? ⟨p, j, none⟩ = some (f j) := by
  obtain ⟨cs, hb, _, hc⟩ := h; rw [hb.cell]; exact hc j hj
theorem FB.frozen (h : FB w p f) (j : Nat) : w.frozen? ⟨p, j, none⟩ = false := by
  obtain ⟨cs, hb, _, hc⟩ := h; exact hb.frozen j
theorem FB.congr (h : FB w p f) (he : ∀ j, j < 769 → f j = g j) : FB w p g := by
  obtain ⟨cs, hb, hs, hc⟩ := h; exact ⟨cs, hb, hs, fun j hj => by rw [hc j hj, he j hj]⟩
theorem FB.fr (h : FB w p f) (hf : Fr S w w') (hp : ¬ S p) : FB w' p f := by
  obtain ⟨cs, hb, hs, hc⟩ := h; exact ⟨cs, hb.fr hf hp, hs, hc⟩
theorem FB.keep (h : FB w p f) (hb : Below w.heap.size w w') : FB w' p f := h.fr (Fr.quiet (S := fun _ => False) hb) (fun h => h)
theorem FB.drewN (h : FB w p f) (n : Nat) : FB (w.drewN n) p f := h.keep (nextN (Mem.start w) n)
theorem FB.drew (h : FB w p f) : FB w.drew p f := h.keep (nextN (Mem.start w) 1)
theorem FB.far (h : FB w p f) {q : Addr} (hq : q.block ≠ p) (u : Value) : FB (w.setCell q u) p f := by
  obtain ⟨cs, hb, hs, hc⟩ := h; exact ⟨cs, hb.far hq u, hs, hc⟩
theorem FB.set (h : FB w p f) (i : Nat) (u : Value) : FB (w.setCell ⟨p, i, none⟩ u) p (fun j => if j = i then u else f j) := by
  obtain ⟨cs, hb, hs, hc⟩ := h
  refine ⟨_, hb.set_ i u, by simpa using hs, fun j hj => ?_⟩
  rw [Array.getElem?_setIfInBounds]
  by_cases e : i = j
  · subst e; simp [hs, hj]
  · rw [if_neg e, hc j hj]
    show some (f j) = some (if j = i then u else f j)
    rw [if_neg (fun h => e h.symm)]
end
theorem FB.zero (w : World) : FB (w.alloc (.cells fzero 80)) w.heap.size (fcell 0 0 0) :=
  ⟨fzero, Blk.new w _ _, by simp [fzero], fun j hj => by simp [fzero, hj]⟩
theorem zeroF (w : World) : (zeroValue 80).run Try.prog w = .ok (.agg fzero) w := by kernel_rfl

/-- A field: its tables are not yet made, or they are. -/
def Fld (w : World) (p : Nat) : Prop := FB w p (fcell 0 0 0) ∨ FB w p (fcell 1 0 255)
theorem Fld.keep {w w' : World} {p : Nat} (h : Fld w p) (hb : Below w.heap.size w w') : Fld w' p := h.elim (fun h => .inl (h.keep hb)) fun h => .inr (h.keep hb)
theorem Fld.fr {w w' : World} {p : Nat} {S : Nat → Prop} (h : Fld w p) (hf : Fr S w w') (hp : ¬ S p) : Fld w' p := h.elim (fun h => .inl (h.fr hf hp)) fun h => .inr (h.fr hf hp)
theorem Fld.lt {w : World} {p : Nat} (h : Fld w p) : p < w.heap.size := h.elim FB.lt FB.lt

/-- A new field. -/
def NewFOk (w : World) (e : Ending) (w' : World) : Prop :=
  e = .returned (.pointer (some ⟨w.heap.size, 0, none⟩)) ∧ FB w' w.heap.size (fcell 0 0 0) ∧ Below w.heap.size w w' ∧ w'.heap.size = w.heap.size + 1
theorem newf_any (w : World) : Calls Try.prog 12 #[] w (NewFOk w) := by
  have hz := zeroF
  generalize hf : fzero = z at *
  have HF := Lib.hid hf
  clear hf
  go_enter Try.func12, Try.ntmps12
  go_wp2_with fail
  go_ret
  refine ⟨rfl, ?_, nextA (Mem.start w) _, by simp⟩
  have := HF.out
  subst this
  exact FB.zero w

theorem step_ex {k j : Nat} (hk : k < 255) (hj : j < 510) : exT (k + 1) j = if j = k ∨ j = k + 255 then (pw k).toNat else exT k j := by
  unfold exT
  have hm := Nat.mod_add_div j 255
  have hl := Nat.mod_lt j (show 255 > 0 by decide)
  by_cases h : j = k ∨ j = k + 255
  · have e : j % 255 = k := by omega
    rw [if_pos (by omega), if_pos h]
    rw [← pw_mod j, e]
  · have e : j % 255 ≠ k := by omega
    rw [if_neg h]
    by_cases h2 : j % 255 < k
    · rw [if_pos h2, if_pos (by omega)]
    · rw [if_neg h2, if_neg (by omega)]
theorem step_lg {k v : Nat} (hk : k < 255) (hv : v < 256) : lgT (k + 1) v = if v = (pw k).toNat then k else lgT k v := by
  unfold lgT
  have hlg : lgl.getD (pw k).toNat 0 = k := lg_pw k hk
  by_cases h : v = (pw k).toNat
  · have hn : v ≠ 0 := by
      intro e; exact pw_ne k (UInt8.toNat_inj.1 (by rw [← h, e]; rfl))
    rw [if_pos h, if_pos (by rw [h, hlg]; exact ⟨by rw [← h]; exact hn, by omega⟩), h, hlg]
  · rw [if_neg h]
    by_cases h2 : v ≠ 0 ∧ lgl.getD v 0 < k
    · rw [if_pos h2, if_pos ⟨h2.1, by omega⟩]
    · rw [if_neg h2, if_neg]
      rintro ⟨h3, h4⟩
      have e : lgl.getD v 0 = k := by
        by_cases h5 : lgl.getD v 0 < k
        · exact absurd ⟨h3, h5⟩ h2
        · omega
      have hv2 : (UInt8.ofNat v).toNat = v := by rw [UInt8.toNat_ofNat']; exact Nat.mod_eq_of_lt hv
      have := pw_lg (UInt8.ofNat v) (fun e2 => h3 (by rw [← hv2, e2]; rfl))
      rw [lg, hv2, e] at this
      exact h (by rw [this, hv2])
/-- A round's three stores. -/
theorem step_cells (d m : Int) {k : Nat} (hk : k < 255) (j : Nat) (hj : j < 769) :
    (if j = 513 + (pw k).toNat then Value.int .i64 (k : Nat) else if j = 3 + (k + 255) then Value.int .u8 ((pw k).toNat : Nat) else if j = 3 + k then Value.int .u8 ((pw k).toNat : Nat) else fcell d m k j) = fcell d m (k + 1) j := by
  have hx := (pw k).toNat_lt
  unfold fcell
  by_cases h3 : j < 3
  · rw [if_neg (by omega), if_neg (by omega), if_neg (by omega), if_pos h3, if_pos h3]
  · rw [if_neg h3, if_neg h3]
    by_cases h5 : j < 513
    · rw [if_pos h5, if_pos h5, if_neg (by omega), step_ex hk (by omega)]
      by_cases e1 : j = 3 + (k + 255)
      · rw [if_pos e1, if_pos (by omega)]
      · rw [if_neg e1]
        by_cases e2 : j = 3 + k
        · rw [if_pos e2, if_pos (by omega)]
        · rw [if_neg e2, if_neg (by omega)]
    · rw [if_neg h5, if_neg h5, if_neg (show ¬ j = 3 + (k + 255) by omega), if_neg (show ¬ j = 3 + k by omega), step_lg hk (by omega)]
      by_cases e1 : j = 513 + (pw k).toNat
      · rw [if_pos e1, if_pos (by omega)]
      · rw [if_neg e1, if_neg (by omega)]
theorem next_all : (List.range 256).all (fun x => decide (mulN x 2 = if 255 < x * 2 then (x * 2) ^^^ 285 else x * 2)) = true := by decide +kernel
theorem pw_next (k : Nat) : (pw (k + 1)).toNat = if 255 < (pw k).toNat * 2 then ((pw k).toNat * 2) ^^^ 285 else (pw k).toNat * 2 := by
  rw [pw, mul_toNat]
  exact Bv.forall_lt_of_all (n := 256) (p := fun x => mulN x 2 = if 255 < x * 2 then (x * 2) ^^^ 285 else x * 2) next_all _ (pw k).toNat_lt
end Go.Proofs.Ythdapoipfnnaeaa.FdW
