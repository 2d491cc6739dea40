/- The arguments of a law, opened: a slice of fields (a size, a number, bytes). -/
import Derived.Test.YtbinffclijjhlaaOpen
import Derived.Deep.Slices
import Derived.Deep.Fields
import Derived.SizedLaws
namespace Go.Proofs.Ytbinffclijjhlaa.Open
open Go.ChangeShapes Go.WideShapes Go.ChangeAt Go.RowKit Go.Deep Mem

/-- A field as it lies in memory. -/
structure OneF where
  sz : UInt8
  n : Nat
  A : Option Addr
  b : List UInt8
  c : Nat
def OneF.cells (x : OneF) : List Value := [u8v x.sz, .int .u64 (x.n : Int), .slice x.A x.b.length x.c]
/-- Fields side by side. -/
structure Flds (w : World) (B : Nat) (A : Option Addr) (l : List OneF) : Prop where
  cells : Cells w B A (l.flatMap OneF.cells)
  each : ∀ x ∈ l, x.n < 256 ^ 8 ∧ Bytes w B x.A x.b

theorem bytes_trod {H : Type} {enc : TypeId × Value → H} {P : Program} {W : World} {T E : TypeId} {base fuel : Nat} {sp : Nat → Bool} {held : Bool} {cs : List Value} {x : DataW H × List MemPlace}
    (hT : P.underlying T = some (.slice E)) (hE : P.underlying E = some (.int .u8)) (hC : P.cellsOf E = 1) (hB : P.bytesOf E = 1) (hf : DataW.trod enc P W base sp held fuel T cs = some x) :
    ∃ (A : Option Addr) (l : List UInt8) (c : Nat), cs = [.slice A l.length c] ∧ l.length ≤ c ∧ c ≤ maxLen ∧ Bytes W W.heap.size A l ∧ ∀ N, (∀ m ∈ DataW.weights P T x.1, m ≤ N) → l.length ≤ N := by
  rcases open_ints hT hE hC hf with ⟨hcs, _⟩ | ⟨x, l, c, zs, hcs, _, hl, hm, hz, hx, hcell, hwz⟩
  · exact ⟨none, [], 0, hcs, Nat.le_refl _, Nat.zero_le _, Bytes.nil, fun N _ => Nat.zero_le _⟩
  · have hzl : l ≤ zs.length := by rw [hz]; split <;> omega
    refine ⟨some x, (List.range l).map fun i => UInt8.ofNat (zs.getD i 0).toNat, c, by simpa using hcs, by simpa using hl, hm, fun hlen => ?_, fun N hN => ?_⟩
    · simp at hlen
      have hbd : ∀ i, i < l → 0 ≤ zs.getD i 0 ∧ zs.getD i 0 ≤ 255 := by
        intro i hi
        have hz' : i < zs.length := by omega
        have : zs.getD i 0 ∈ zs := by
          simp [List.getD, hz']
        exact bounds_u8 (hwz _ this)
      obtain ⟨b, off, spot⟩ := x
      have hspot : spot = none := by
        have hc0 := hcell 0 (by omega)
        exact by simpa [Addr.add] using World.cell?_spot hc0
      subst hspot
      refine ⟨b, off, rfl, ?_, fun j v hv => ?_⟩
      · have hc0 := hcell 0 (by omega)
        rw [Addr.add_lit] at hc0
        exact World.block_lt_of_cell? _ _ hc0
      · simp only [List.getElem?_map] at hv
        by_cases hj : j < l
        · have hc0 := hcell j (by omega)
          rw [Addr.add_lit] at hc0
          rw [hc0]
          simp [hj] at hv
          rw [← hv]
          simp only [u8v]
          have hb := hbd j hj
          have e : ((UInt8.ofNat (zs.getD j 0).toNat).toNat : Int) = zs.getD j 0 := by
            rw [UInt8.toNat_ofNat', Nat.mod_eq_of_lt (by show (zs.getD j 0).toNat < 256; omega)]
            omega
          simp only [List.getD] at e
          rw [e]; rfl
        · simp [hj] at hv
    · have h := hN ((lits .u8 (zs.take l)).length + (lits .u8 (zs.drop l)).length) (by
        rw [hx]
        simp [DataW.weights, hT, hB]
        exact .inl rfl)
      simp [lits] at h
      simp
      omega
theorem fd_trod {H : Type} {enc : TypeId × Value → H} {P : Program} {W : World} {E U : TypeId} {f0 f1 f2 : Field} {base fuel : Nat} {sp : Nat → Bool} {held : Bool} {cs : List Value} {x : DataW H × List MemPlace}
    (hE : P.underlying E = some (.struct #[f0, f1, f2])) (h1 : oneCellFields P #[f0, f1, f2] = true) (hC : P.cellsOf E = 3) (t0 : P.underlying f0.type = some (.int .u8)) (t1 : P.underlying f1.type = some (.int .u64)) (t2 : P.underlying f2.type = some (.slice U)) (tU : P.underlying U = some (.int .u8)) (cU : P.cellsOf U = 1) (bU : P.bytesOf U = 1)
    (hf : DataW.trod enc P W base sp held fuel E cs = some x) :
    ∃ y : OneF, cs = y.cells ∧ y.n < 256 ^ 8 ∧ Bytes W W.heap.size y.A y.b ∧ ∀ N, (∀ m ∈ DataW.weights P E x.1, m ≤ N) → y.b.length ≤ N := by
  obtain ⟨ys, n, _, hx, hlen, hyl, hg⟩ := DataW.trod_struct hE hf
  rw [hC] at hlen
  obtain ⟨o0, k0⟩ := hone_of h1 0 f0 rfl
  obtain ⟨o1, k1⟩ := hone_of h1 1 f1 rfl
  obtain ⟨o2, k2⟩ := hone_of h1 2 f2 rfl
  match cs, hlen, ys, hyl with
  | [c0, c1, c2], _, [y0, y1, y2], _ =>
    have g0 := hg 0 f0 rfl
    have g1 := hg 1 f1 rfl
    have g2 := hg 2 f2 rfl
    simp [o0, k0] at g0
    simp [o1, k1] at g1
    simp [o2, k2] at g2
    obtain ⟨n0, e0, _, w0⟩ := DataW.trod_int t0 g0
    obtain ⟨n1, e1, _, w1⟩ := DataW.trod_int t1 g1
    obtain ⟨A, l, c, e2, _, _, hb, hw⟩ := bytes_trod t2 tU cU bU g2
    injection e0 with e0 _; injection e1 with e1 _; injection e2 with e2 _
    subst e0; subst e1; subst e2
    obtain ⟨s, hs⟩ := u8_of_wf w0
    have hu := u64_of_wf w1
    refine ⟨⟨s, n1.toNat, A, l, c⟩, ?_, by show n1.toNat < 256 ^ 8; omega, hb, fun N hN => hw N fun m hm => hN m ?_⟩
    · simp only [OneF.cells, u8v, ← hs]
      rw [Int.toNat_of_nonneg hu.1]
    · rw [hx]
      simp [DataW.weights, hE, DataW.weightsEach, hm]

theorem weightsAll_mem' {H : Type} {P : Program} {e : TypeId} {ds : List (DataW H)} {d : DataW H} (hd : d ∈ ds) (m : Nat) (hm : m ∈ DataW.weights P e d) : m ∈ DataW.weightsAll P e ds := by
  induction ds with
  | nil => cases hd
  | cons a r ih =>
    simp only [DataW.weightsAll, List.mem_append]
    rcases List.mem_cons.1 hd with rfl | h
    · exact .inl hm
    · exact .inr (ih h)
theorem cells_flat {w : World} {B b off len : Nat} {Y : Nat → OneF} (hb : b < B) (h : ∀ i, i < len → ∀ j v, (Y i).cells[j]? = some v → w.cell? ⟨b, off + (i * 3 + j), none⟩ = some v) :
    Cells w B (some ⟨b, off, none⟩) (((List.range len).map Y).flatMap OneF.cells) := fun _ => by
  refine ⟨b, off, rfl, hb, fun j v hv => ?_⟩
  suffices hs : ∀ (len : Nat), (∀ i, i < len → ∀ j v, (Y i).cells[j]? = some v → w.cell? ⟨b, off + (i * 3 + j), none⟩ = some v) → ∀ j v, (((List.range len).map Y).flatMap OneF.cells)[j]? = some v → w.cell? ⟨b, off + j, none⟩ = some v ∧ (((List.range len).map Y).flatMap OneF.cells).length = len * 3 from (hs len h j v hv).1
  intro len
  have hlen : ∀ len, (((List.range len).map Y).flatMap OneF.cells).length = len * 3 := by
    intro len
    induction len with
    | zero => rfl
    | succ n ih => rw [List.range_succ, List.map_append, List.flatMap_append, List.length_append, ih]; simp [OneF.cells]; omega
  induction len with
  | zero => intro _ j v hv; simp at hv
  | succ n ih =>
    intro h j v hv
    refine ⟨?_, hlen _⟩
    rw [List.range_succ, List.map_append, List.flatMap_append] at hv
    by_cases hj : j < n * 3
    · rw [List.getElem?_append_left (by rw [hlen]; exact hj)] at hv
      exact (ih (fun i hi => h i (by omega)) j v hv).1
    · rw [List.getElem?_append_right (by rw [hlen]; omega), hlen] at hv
      have := h n (by omega) (j - n * 3) v (by simpa using hv)
      rwa [show off + (n * 3 + (j - n * 3)) = off + j by omega] at this
theorem open_fields {H : Type} {enc : TypeId × Value → H} {P : Program} {W : World} {T E U : TypeId} {f0 f1 f2 : Field} {r : Reach} {b0 base : Nat} {sp : Nat → Bool} {held : Bool} {v : Value} {d : DataW H} {p : List MemPlace}
    (hT : P.underlying T = some (.slice E)) (hE : P.underlying E = some (.struct #[f0, f1, f2])) (h1 : oneCellFields P #[f0, f1, f2] = true) (hC : P.cellsOf E = 3) (t0 : P.underlying f0.type = some (.int .u8)) (t1 : P.underlying f1.type = some (.int .u64)) (t2 : P.underlying f2.type = some (.slice U)) (tU : P.underlying U = some (.int .u8)) (cU : P.cellsOf U = 1) (bU : P.bytesOf U = 1)
    (hv : Value.okWide P W r b0 T v) (h : DataW.Trod enc P W base sp held T v d p) :
    ∃ (A : Option Addr) (l : List OneF) (c : Nat), v = .slice A l.length c ∧ l.length ≤ c ∧ c ≤ maxLen ∧ Flds W W.heap.size A l ∧ ∀ N, (∀ m ∈ DataW.weights P T d, m ≤ N) → ∀ x ∈ l, x.b.length ≤ N := by
  obtain ⟨a, len, cap, rfl⟩ := okWide_slice hT hv
  obtain ⟨fuel, hf⟩ := h
  rcases open_slice hT hf with ⟨hcs, _⟩ | ⟨x, l, c, m, n, D, Pl, hcs, _, hl, hm, hmm, hx, hel⟩
  · simp [Value.cells] at hcs
    obtain ⟨rfl, rfl, rfl⟩ := hcs
    exact ⟨none, [], 0, rfl, Nat.le_refl _, Nat.zero_le _, ⟨Cells.nil, by simp⟩, by simp⟩
  · simp [Value.cells] at hcs
    obtain ⟨rfl, rfl, rfl⟩ := hcs
    have hml : len ≤ m := by rw [hmm]; split <;> omega
    have hY : ∀ i, ∃ y : OneF, i < len → (∀ j v, y.cells[j]? = some v → W.cell? ((x.add (i * 3)).add j) = some v) ∧ y.n < 256 ^ 8 ∧ Bytes W W.heap.size y.A y.b ∧ ∀ N, (∀ m ∈ DataW.weights P E (D i), m ≤ N) → y.b.length ≤ N := by
      intro i
      by_cases hi : i < len
      · obtain ⟨cs', hc, ht⟩ := hel i (by omega)
        rw [hC] at hc
        obtain ⟨_, hcl, hat⟩ := World.cells?_some hc
        obtain ⟨y, rfl, hn, hb, hw⟩ := fd_trod hE h1 hC t0 t1 t2 tU cU bU ht
        refine ⟨y, fun _ => ⟨fun j v hj => ?_, hn, hb, hw⟩⟩
        have hj3 : j < 3 := by
          have := (List.getElem?_eq_some_iff.1 hj).1
          simpa [OneF.cells] using this
        rw [hat j hj3, hj]
      · exact ⟨⟨0, 0, none, [], 0⟩, fun h => absurd h hi⟩
    obtain ⟨Y, hY⟩ := Classical.axiomOfChoice hY
    refine ⟨some x, (List.range len).map Y, cap, by simp, by simpa using hl, hm, ⟨fun hlen => ?_, fun y hy => ?_⟩, fun N hN y hy => ?_⟩
    · have hlp : 0 < len := by
        rcases Nat.eq_zero_or_pos len with rfl | h
        · simp at hlen
        · exact h
      obtain ⟨b, off, spot⟩ := x
      have hc0 := (hY 0 hlp).1 0 _ rfl
      have hspot : spot = none := by
        exact by simpa [Addr.add] using World.cell?_spot hc0
      subst hspot
      rw [Addr.add_lit, Addr.add_lit] at hc0
      refine cells_flat (World.block_lt_of_cell? _ _ hc0) (fun i hi j v hj => ?_) hlen
      have := (hY i hi).1 j v hj
      rwa [Addr.add_lit, Addr.add_lit, Nat.add_assoc] at this
    · obtain ⟨i, hi, rfl⟩ := List.mem_map.1 hy
      exact ⟨(hY i (List.mem_range.1 hi)).2.1, (hY i (List.mem_range.1 hi)).2.2.1⟩
    · obtain ⟨i, hi, rfl⟩ := List.mem_map.1 hy
      refine (hY i (List.mem_range.1 hi)).2.2.2 N fun m hm => hN m ?_
      injection hx with hx _
      rw [hx]
      simp only [DataW.weights, hT, List.mem_cons, List.mem_append]
      exact .inr (.inl (weightsAll_mem' (List.mem_map.2 ⟨i, hi, rfl⟩) m hm))
end Go.Proofs.Ytbinffclijjhlaa.Open
