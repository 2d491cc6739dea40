/- What DiskKnown's walk asks for. -/
import Derived.Test.YtjpelifafmkdpaaDkNil
import Derived.Test.YtjpelifafmkdpaaDkFl
namespace Go.Proofs.Ytjpelifafmkdpaa.DkW
open Go.RowKit Go.Shelf Mem Rng
set_option linter.unusedVariables false

/-- The marked row of a constant's bytes. -/
theorem run_freeze (w : World) (g : Nat) (C : Array Value) (n c : Nat) (hB : Blk w g 5 C) :
    ∃ w', (convert 23 23 (.slice (some ⟨g, 0, none⟩) n c)).run Try.prog w = .ok (.slice (some ⟨g, 0, none⟩) n c) w' ∧ w'.heap[g]? = some (.cells C 5 (C.size, C.size + 1)) ∧ Fr (fun k => k = g) w w' ∧ w'.heap.size = w.heap.size := by
  have hh : w.heap[g]? = some (.cells C 5 (0, 0)) := hB
  have hsh : w.shape? g = some (5, C.size) := by unfold World.shape?; rw [hh]
  refine ⟨w.freeze ⟨g, C.size, none⟩ 1, ?_, ?_, ?_, ?_⟩
  · simp [convert, run_underlying Try.underlying23, run_underlying Try.underlying5, markStringish, hsh]
  · unfold World.freeze
    rw [if_neg (by decide)]
    show (w.heap.modify g _)[g]? = _
    rw [Array.getElem?_modify, if_pos rfl, hh]; rfl
  · unfold World.freeze
    rw [if_neg (by decide)]
    exact ⟨rfl, rfl, rfl, by simp, fun k hk hn => by
      show (w.heap.modify g _)[k]? = _
      rw [Array.getElem?_modify, if_neg (fun e => hn e.symm)]⟩
  · unfold World.freeze
    rw [if_neg (by decide)]
    simp
theorem step_freeze {ops : Array Oper} {o : Oper} {a : Act} {R : Act → World → Prop} {Q : Exit → Act → World → Prop} {E : Prop} (w : World) (hgd : o.guard = none) (x : Operand) (ho : o.op = .convert 23 23 x) (g : Nat) (C : Array Value) (n c : Nat) (hx : a.eval x = .slice (some ⟨g, 0, none⟩) n c) (hB : Blk w g 5 C)
    (h : ∀ w', w'.heap[g]? = some (.cells C 5 (C.size, C.size + 1)) → Fr (fun k => k = g) w w' → R (a.put o.dst (.slice (some ⟨g, 0, none⟩) n c)) w') : if Region.wanted o (yielded ops a.tmps) = true then Oper.wp Try.prog o a w R Q else E := by
  rw [if_pos (by simp [Region.wanted, hgd])]
  obtain ⟨w', hr, h1, h2, _⟩ := run_freeze w g C n c hB
  unfold Oper.wp execOp
  simp only [ho, hx, Sem.run_bind, hr, Result.andThen_ok, Sem.run_pure]
  exact h w' h1 h2
theorem bytes_marked {w : World} {g : Nat} {C : Array Value} {T : TypeId} {fz : Nat × Nat} {l : List UInt8} (h : w.heap[g]? = some (.cells C T fz)) (hC : C.toList = l.map u8v) : Bytes w w.heap.size (some ⟨g, 0, none⟩) l := fun _ =>
  ⟨g, 0, rfl, (Array.getElem?_eq_some_iff.1 h).1, fun j v hv => by
    unfold World.cell?
    rw [h, Nat.zero_add, ← hv, ← hC]
    exact (Array.getElem?_toList ..).symm⟩
theorem cells_blk {w : World} {g : Nat} {C : Array Value} {T : TypeId} {xs : List Value} (h : Blk w g T C) (hC : C.toList = xs) : Cells w w.heap.size (some ⟨g, 0, none⟩) xs := fun _ =>
  ⟨g, 0, rfl, h.lt, fun j v hv => by
    rw [h.cell, Nat.zero_add, ← hv, ← hC]
    exact (Array.getElem?_toList ..).symm⟩
theorem cells_pre {w : World} {B : Nat} {A : Option Addr} {xs ys : List Value} (h : Cells w B A (xs ++ ys)) : Cells w B A xs := by
  have := h.take xs.length
  rwa [List.take_left] at this
theorem fates_n (w : World) (A : Option Addr) (l : List Open.OneP) (n c : Nat) (hn : l.length = n) (hcl : n ≤ c) (hmx : c ≤ 256 ^ 3) (hF : Cells w w.heap.size A (l.flatMap Open.OneP.cells)) (hg : ∀ x ∈ l, x.good w)
    (B : Option Addr) (r : List Open.OneP) (m d : Nat) (hm : r.length = m) (hdl : m ≤ d) (hmd : d ≤ 256 ^ 3) (hG : Cells w w.heap.size B (r.flatMap Open.OneP.cells)) (hgr : ∀ x ∈ r, x.good w)
    (C : Option Addr) (one : List UInt8) (n1 c1 : Nat) (hn1 : one.length = n1) (h1l : n1 ≤ c1) (h1m : c1 ≤ 256 ^ 3) (h1 : Bytes w w.heap.size C one) :
    Calls Try.prog 5 #[.slice A n c, .slice B m d, .slice C n1 c1] w fun e w' => e = .returned (.bool true) ∧ Below w.heap.size w w' := by
  subst hn; subst hm; subst hn1
  exact fates_any w A l c hcl (by unfold maxLen; omega) hF hg B r d hdl (by unfold maxLen; omega) hG hgr C one c1 h1l (by unfold maxLen; omega) h1
theorem fails_n (w : World) (A : Option Addr) (l : List Open.OneP) (n c : Nat) (hn : l.length = n) (hcl : n ≤ c) (hmx : c ≤ 256 ^ 3) (hF : Cells w w.heap.size A (l.flatMap Open.OneP.cells)) (hg : ∀ x ∈ l, x.good w) (t : UInt8) (z : Int) (hz : z = (t.toNat : Int)) :
    Calls Try.prog 6 #[.slice A n c, .int .u8 z] w fun e w' => e = .returned (.bool true) ∧ Below w.heap.size w w' := by
  subst hn; subst hz
  exact fails_any w A l c hcl (by unfold maxLen; omega) hF hg t
theorem settled_n (w : World) (A : Option Addr) (l : List Open.OneP) (n c : Nat) (hn : l.length = n) (hcl : n ≤ c) (hmx : c ≤ 256 ^ 3) (hF : Cells w w.heap.size A (l.flatMap Open.OneP.cells)) (hg : ∀ x ∈ l, x.good w)
    (B : Option Addr) (r : List Open.OneP) (m d : Nat) (hm : r.length = m) (hdl : m ≤ d) (hmd : d ≤ 256 ^ 3) (hG : Cells w w.heap.size B (r.flatMap Open.OneP.cells)) (hgr : ∀ x ∈ r, x.good w)
    (C : Option Addr) (one : List UInt8) (n1 c1 : Nat) (hn1 : one.length = n1) (h1l : n1 ≤ c1) (h1m : c1 ≤ 256 ^ 3) (h1 : Bytes w w.heap.size C one)
    (D : Option Addr) (two : List UInt8) (n2 c2 : Nat) (hn2 : two.length = n2) (h2l : n2 ≤ c2) (h2m : c2 ≤ 256 ^ 3) (h2 : Bytes w w.heap.size D two) :
    Calls Try.prog 3 #[.slice A n c, .slice B m d, .slice C n1 c1, .slice D n2 c2] w fun e w' => e = .returned (.bool true) ∧ Below w.heap.size w w' := by
  subst hn; subst hm; subst hn1; subst hn2
  exact settled_any w A l c hcl (by unfold maxLen; omega) hF hg B r d hdl (by unfold maxLen; omega) hG hgr C one c1 h1l (by unfold maxLen; omega) h1 D two c2 h2l (by unfold maxLen; omega) h2
theorem twins_n (w : World) (A : Option Addr) (l : List Open.OneP) (n c : Nat) (hn : l.length = n) (hcl : n ≤ c) (hmx : c ≤ 256 ^ 3) (hF : Cells w w.heap.size A (l.flatMap Open.OneP.cells)) (hg : ∀ x ∈ l, x.good w)
    (B : Option Addr) (r : List Open.OneP) (m d : Nat) (hm : r.length = m) (hdl : m ≤ d) (hmd : d ≤ 256 ^ 3) (hG : Cells w w.heap.size B (r.flatMap Open.OneP.cells)) (hgr : ∀ x ∈ r, x.good w)
    (C : Option Addr) (one : List UInt8) (n1 c1 : Nat) (hn1 : one.length = n1) (h1l : n1 ≤ c1) (h1m : c1 ≤ 256 ^ 3) (h1 : Bytes w w.heap.size C one)
    (D : Option Addr) (two : List UInt8) (n2 c2 : Nat) (hn2 : two.length = n2) (h2l : n2 ≤ c2) (h2m : c2 ≤ 256 ^ 3) (h2 : Bytes w w.heap.size D two) :
    Calls Try.prog 4 #[.slice A n c, .slice B m d, .slice C n1 c1, .slice D n2 c2] w fun e w' => e = .returned (.bool true) ∧ Below w.heap.size w w' := by
  subst hn; subst hm; subst hn1; subst hn2
  exact twins_any w A l c hcl (by unfold maxLen; omega) hF hg B r d hdl (by unfold maxLen; omega) hG hgr C one c1 h1l (by unfold maxLen; omega) h1 D two c2 h2l (by unfold maxLen; omega) h2
theorem calls_n (w : World) (K : Int) (A : Option Addr) (l : List Open.OneD) (n c : Nat) (hn : l.length = n) (hcl : n ≤ c) (hmx : c ≤ 256 ^ 3) (hF : Cells w w.heap.size A (l.flatMap Open.OneD.cells)) (hg : ∀ x ∈ l, x.good w) :
    Calls Try.prog 7 #[.int .i64 K, .slice A n c] w fun e w' => e = .returned (.bool true) ∧ Below w.heap.size w w' := by
  subst hn
  exact calls_any w K A l c hcl (by unfold maxLen; omega) hF hg
/-- The law's four writes. -/
def KP (g ga : Nat) (fl : List UInt8) : List Open.OneP := [⟨0, some ⟨g, 0, none⟩, fl, 256⟩, ⟨1, some ⟨ga, 0, none⟩, [97, 98], 2⟩, ⟨0, none, [], 0⟩, ⟨3, some ⟨g, 0, none⟩, fl.take 255, 256⟩]
def KL (g gx : Nat) (fl : List UInt8) (f : Nat) : List Open.OneP := [⟨0, some ⟨g, 0, none⟩, fl.take f, 256⟩, ⟨2, some ⟨g, 0, none⟩, fl, 256⟩, ⟨0, some ⟨gx, 0, none⟩, [120], 1⟩]
theorem kp_good {w : World} {g ga : Nat} {fl : List UInt8} (hl : fl.length = 256) (hf : Bytes w w.heap.size (some ⟨g, 0, none⟩) fl) (ha : Bytes w w.heap.size (some ⟨ga, 0, none⟩) [97, 98]) : ∀ x ∈ KP g ga fl, x.good w := by
  intro x hx
  simp only [KP, List.mem_cons, List.not_mem_nil, or_false] at hx
  rcases hx with rfl | rfl | rfl | rfl
  · exact ⟨hf, by show fl.length ≤ 256; omega⟩
  · exact ⟨ha, Nat.le_refl _⟩
  · exact ⟨Bytes.nil, Nat.le_refl _⟩
  · exact ⟨hf.take 255, by show (fl.take 255).length ≤ 256; rw [List.length_take]; omega⟩
theorem kl_good {w : World} {g gx f : Nat} {fl : List UInt8} (hl : fl.length = 256) (hf : Bytes w w.heap.size (some ⟨g, 0, none⟩) fl) (ha : Bytes w w.heap.size (some ⟨gx, 0, none⟩) [120]) : ∀ x ∈ KL g gx fl f, x.good w := by
  intro x hx
  simp only [KL, List.mem_cons, List.not_mem_nil, or_false] at hx
  rcases hx with rfl | rfl | rfl
  · exact ⟨hf.take f, by show (fl.take f).length ≤ 256; rw [List.length_take]; omega⟩
  · exact ⟨hf, by show fl.length ≤ 256; omega⟩
  · exact ⟨ha, Nat.le_refl _⟩
/-- The law's calls. -/
def KD (g b : Nat) (fl : List UInt8) : List Open.OneD := [⟨0, 0, 0, some ⟨g, 0, none⟩, fl, 256⟩, ⟨0, 1, 0, some ⟨b, 0, none⟩, List.replicate 257 0, 257⟩, ⟨0, -1, 0, none, [], 0⟩, ⟨0, 4, 0, none, [], 0⟩, ⟨1, 0, 0, none, [], 0⟩, ⟨2, 0, 0, none, [], 0⟩, ⟨3, 0, 2, none, [], 0⟩, ⟨0, 1, 0, some ⟨b + 1, 0, none⟩, [97, 98], 2⟩, ⟨6, 0, 0, none, [], 0⟩, ⟨0, 1, 0, some ⟨b + 1 + 1, 0, none⟩, [99, 100, 101], 3⟩, ⟨1, 1, 0, none, [], 0⟩, ⟨0, 2, 0, some ⟨b + 1 + 1 + 1, 0, none⟩, [102], 1⟩, ⟨1, 2, 0, none, [], 0⟩, ⟨5, 0, 0, some ⟨b + 1 + 1 + 1 + 1, 0, none⟩, [255, 2, 1], 3⟩, ⟨1, 1, 0, none, [], 0⟩, ⟨1, 2, 0, none, [], 0⟩, ⟨3, 0, -1, none, [], 0⟩, ⟨2, 0, 0, none, [], 0⟩, ⟨3, 0, 0, none, [], 0⟩, ⟨2, 0, 0, none, [], 0⟩, ⟨2, 0, 0, none, [], 0⟩, ⟨4, 0, 0, none, [], 0⟩, ⟨5, 0, 0, none, [], 0⟩, ⟨1, 1, 0, none, [], 0⟩]
def kdC (g b m : Nat) : Array Value := #[.int .u8 0, .int .i64 0, .int .i64 0, .slice (some ⟨g, 0, none⟩) m 256, .int .u8 0, .int .i64 1, .int .i64 0, .slice (some ⟨b, 0, none⟩) 257 257, .int .u8 0, .int .i64 (-1), .int .i64 0, .slice none 0 0, .int .u8 0, .int .i64 4, .int .i64 0, .slice none 0 0, .int .u8 1, .int .i64 0, .int .i64 0, .slice none 0 0, .int .u8 2, .int .i64 0, .int .i64 0, .slice none 0 0, .int .u8 3, .int .i64 0, .int .i64 2, .slice none 0 0, .int .u8 0, .int .i64 1, .int .i64 0, .slice (some ⟨b + 1, 0, none⟩) 2 2, .int .u8 6, .int .i64 0, .int .i64 0, .slice none 0 0, .int .u8 0, .int .i64 1, .int .i64 0, .slice (some ⟨b + 1 + 1, 0, none⟩) 3 3, .int .u8 1, .int .i64 1, .int .i64 0, .slice none 0 0, .int .u8 0, .int .i64 2, .int .i64 0, .slice (some ⟨b + 1 + 1 + 1, 0, none⟩) 1 1, .int .u8 1, .int .i64 2, .int .i64 0, .slice none 0 0, .int .u8 5, .int .i64 0, .int .i64 0, .slice (some ⟨b + 1 + 1 + 1 + 1, 0, none⟩) 3 3, .int .u8 1, .int .i64 1, .int .i64 0, .slice none 0 0, .int .u8 1, .int .i64 2, .int .i64 0, .slice none 0 0, .int .u8 3, .int .i64 0, .int .i64 (-1), .slice none 0 0, .int .u8 2, .int .i64 0, .int .i64 0, .slice none 0 0, .int .u8 3, .int .i64 0, .int .i64 0, .slice none 0 0, .int .u8 2, .int .i64 0, .int .i64 0, .slice none 0 0, .int .u8 2, .int .i64 0, .int .i64 0, .slice none 0 0, .int .u8 4, .int .i64 0, .int .i64 0, .slice none 0 0, .int .u8 5, .int .i64 0, .int .i64 0, .slice none 0 0, .int .u8 1, .int .i64 1, .int .i64 0, .slice none 0 0]
def kdW5 (w : World) : World := ((((w.alloc (.cells (Array.replicate 257 (.int .u8 0)) 5)).alloc (.cells #[.int .u8 97, .int .u8 98] 5 (2, 3))).alloc (.cells #[.int .u8 99, .int .u8 100, .int .u8 101] 5 (3, 4))).alloc (.cells #[.int .u8 102] 5 (1, 2))).alloc (.cells #[.int .u8 255, .int .u8 2, .int .u8 1] 5)
def kdW (w : World) (g : Nat) : World := (kdW5 w).alloc (.cells (kdC g w.heap.size 256) 52)
theorem kd_below (w : World) (g : Nat) : Below w.heap.size w (kdW w g) := nextA (nextA (nextA (nextA (nextA (nextA (Mem.start w) _) _) _) _) _) _
theorem kdW5_size (w : World) : (kdW5 w).heap.size = w.heap.size + 1 + 1 + 1 + 1 + 1 := by
  unfold kdW5
  rw [World.size_alloc, World.size_alloc, World.size_alloc, World.size_alloc, World.size_alloc]
theorem new_bytes (w : World) (C : Array Value) (T : TypeId) (fz : Nat × Nat) (l : List UInt8) (h : C.toList = l.map u8v) (g : Nat) (hg : w.heap.size = g) : Bytes (w.alloc (.cells C T fz)) (w.alloc (.cells C T fz)).heap.size (some ⟨g, 0, none⟩) l := by
  subst hg
  exact Bytes.new w l T fz C h _ (by rw [World.size_alloc]; exact Nat.lt_succ_self _)
set_option maxRecDepth 100000 in
theorem kd_list (g b : Nat) (fl : List UInt8) : (kdC g b fl.length).toList = (KD g b fl).flatMap Open.OneD.cells := by kernel_rfl
theorem kd_cells (w : World) (g : Nat) (fl : List UInt8) (hl : fl.length = 256) : Cells (kdW w g) (kdW w g).heap.size (some ⟨w.heap.size + 1 + 1 + 1 + 1 + 1, 0, none⟩) ((KD g w.heap.size fl).flatMap Open.OneD.cells) := by
  have h := Blk.new (kdW5 w) 52 (kdC g w.heap.size 256)
  rw [kdW5_size] at h
  exact cells_blk h (by rw [← kd_list, hl])
theorem kd_good (w : World) (g : Nat) (fl : List UInt8) (hl : fl.length = 256) (hf : Bytes w w.heap.size (some ⟨g, 0, none⟩) fl) : ∀ x ∈ KD g w.heap.size fl, x.good (kdW w g) := by
  have up : ∀ {v v' : World} {A : Option Addr} {l : List UInt8}, Bytes v v.heap.size A l → Below v.heap.size v v' → Bytes v' v'.heap.size A l := fun h hb => (h.below hb).up hb.size
  have h1 := up hf (kd_below w g)
  have e1 := new_bytes w (Array.replicate 257 (.int .u8 0)) 5 (0, 0) (List.replicate 257 0) (by rw [Array.toList_replicate, List.map_replicate]; rfl) _ rfl
  have e2 := new_bytes (w.alloc (.cells (Array.replicate 257 (.int .u8 0)) 5)) #[.int .u8 97, .int .u8 98] 5 (2, 3) [97, 98] rfl (w.heap.size + 1) (World.size_alloc ..)
  have e3 := new_bytes ((w.alloc (.cells (Array.replicate 257 (.int .u8 0)) 5)).alloc (.cells #[.int .u8 97, .int .u8 98] 5 (2, 3))) #[.int .u8 99, .int .u8 100, .int .u8 101] 5 (3, 4) [99, 100, 101] rfl (w.heap.size + 1 + 1) (by rw [World.size_alloc, World.size_alloc])
  have e4 := new_bytes (((w.alloc (.cells (Array.replicate 257 (.int .u8 0)) 5)).alloc (.cells #[.int .u8 97, .int .u8 98] 5 (2, 3))).alloc (.cells #[.int .u8 99, .int .u8 100, .int .u8 101] 5 (3, 4))) #[.int .u8 102] 5 (1, 2) [102] rfl (w.heap.size + 1 + 1 + 1) (by rw [World.size_alloc, World.size_alloc, World.size_alloc])
  have e5 := new_bytes ((((w.alloc (.cells (Array.replicate 257 (.int .u8 0)) 5)).alloc (.cells #[.int .u8 97, .int .u8 98] 5 (2, 3))).alloc (.cells #[.int .u8 99, .int .u8 100, .int .u8 101] 5 (3, 4))).alloc (.cells #[.int .u8 102] 5 (1, 2))) #[.int .u8 255, .int .u8 2, .int .u8 1] 5 (0, 0) [255, 2, 1] rfl (w.heap.size + 1 + 1 + 1 + 1) (by rw [World.size_alloc, World.size_alloc, World.size_alloc, World.size_alloc])
  have k1 : Bytes (kdW w g) (kdW w g).heap.size (some ⟨w.heap.size, 0, none⟩) (List.replicate 257 0) := up e1 (nextA (nextA (nextA (nextA (nextA (Mem.start _) _) _) _) _) _)
  have k2 : Bytes (kdW w g) (kdW w g).heap.size (some ⟨w.heap.size + 1, 0, none⟩) [97, 98] := up e2 (nextA (nextA (nextA (nextA (Mem.start _) _) _) _) _)
  have k3 : Bytes (kdW w g) (kdW w g).heap.size (some ⟨w.heap.size + 1 + 1, 0, none⟩) [99, 100, 101] := up e3 (nextA (nextA (nextA (Mem.start _) _) _) _)
  have k4 : Bytes (kdW w g) (kdW w g).heap.size (some ⟨w.heap.size + 1 + 1 + 1, 0, none⟩) [102] := up e4 (nextA (nextA (Mem.start _) _) _)
  have k5 : Bytes (kdW w g) (kdW w g).heap.size (some ⟨w.heap.size + 1 + 1 + 1 + 1, 0, none⟩) [255, 2, 1] := up e5 (nextA (Mem.start _) _)
  intro x hx
  simp only [KD, List.mem_cons, List.not_mem_nil, or_false] at hx
  rcases hx with rfl | rfl | rfl | rfl | rfl | rfl | rfl | rfl | rfl | rfl | rfl | rfl | rfl | rfl | rfl | rfl | rfl | rfl | rfl | rfl | rfl | rfl | rfl | rfl
  all_goals (refine ⟨⟨?_, ?_⟩, ⟨?_, ?_⟩, ?_, ?_⟩)
  all_goals first
    | exact Bytes.nil
    | exact h1
    | exact k1
    | exact k2
    | exact k3
    | exact k4
    | exact k5
    | (show (List.replicate 257 (0 : UInt8)).length ≤ 257; rw [List.length_replicate]; exact Nat.le_refl _)
    | (show fl.length ≤ 256; omega)
    | (dsimp only; decide)
theorem u8of (z : Int) (h : -1 ≤ z ∧ z ≤ 6) : ∃ cc : UInt8, IntKind.u8.wrap z = (cc.toNat : Int) := by
  refine ⟨UInt8.ofNat (z % 256).toNat, ?_⟩
  rw [UInt8.toNat_ofNat', Nat.mod_eq_of_lt (by show (z % 256).toNat < 256; omega)]
  show z % 256 = _
  omega
end Go.Proofs.Ytjpelifafmkdpaa.DkW
