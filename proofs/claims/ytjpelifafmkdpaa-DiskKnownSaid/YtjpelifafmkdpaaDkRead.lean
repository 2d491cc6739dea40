/- Read of a disk. -/
import Derived.Test.YtjpelifafmkdpaaDkSync
namespace Go.Proofs.Ytjpelifafmkdpaa.DkW
open Go.RowKit Go.Shelf Mem Rng
set_option linter.unusedVariables false

theorem binfo : (Try.prog.info? 59).map (·.size) = some 256 := by kernel_rfl
theorem bcells_one (l : List UInt8) : (bcells l).all (·.oneCell') = true := all_oneCell_toArray (u8v_one (l := l))
theorem blkRow {w : World} {g : Nat} {T : TypeId} {old : Array Value} (h : Blk w g T old) (cs : Array Value) : Blk (w.setRow g cs) g T cs := setRow_heap w g old cs T (0, 0) h
theorem frRow {S : Nat → Prop} {w w' : World} {g : Nat} (h : Fr S w w') (hg : g < w.heap.size → S g) (cs : Array Value) : Fr S w (w'.setRow g cs) :=
  ⟨h.os, h.tape, h.output, by unfold World.setRow; simpa using h.size, fun k hk hn => by
    have hne : g ≠ k := fun e => hn (by rw [← e]; exact hg (by omega))
    have : (w'.setRow g cs).heap[k]? = w'.heap[k]? := by unfold World.setRow; simp [Array.getElem?_modify, hne]
    exact this.trans (h.block k hk hn)⟩
theorem rowOf {w : World} {g base : Nat} {T : TypeId} {l : List UInt8} (h : Blk w g T (bcells l)) (hb : base ≤ g) : Row w base (some ⟨g, 0, none⟩) (l.map u8v) := fun _ =>
  ⟨g, bcells l, T, (0, 0), rfl, hb, h, .inl rfl, by simp [bcells]; exact List.take_of_length_le (by simp)⟩
/-- A whole variable that is new, stored to. -/
theorem wpList_store_new {ops : Array Oper} {rest : List Oper} {o : Oper} {a : Act} {Q : Exit → Act → World → Prop} (w : World) (hgd : o.guard = none) (ty : TypeId) (x y : Operand) (ho : o.op = .store ty x y) (T : TypeId) (old new : Array Value)
    (hx : a.eval x = .pointer (some ⟨w.heap.size, 0, none⟩)) (hy : a.eval y = .agg new) (hi : (Try.prog.info? ty).map (·.size) = some new.size) (hold : old.size = new.size) (h1 : new.all (·.oneCell') = true)
    (h : ∀ w', Blk w' w.heap.size T new → Below w.heap.size w w' → w'.heap.size = w.heap.size + 1 → wpList Try.prog ops Q rest (a.put o.dst undef) w') : wpList Try.prog ops Q (o :: rest) a (w.alloc (.cells old T)) := by
  refine wpList_store_row hgd ty x y ho w.heap.size new hx hy T old (new_heap w _) hi hold h1 (h _ (blkRow (Blk.new w T old) new) ?_ ?_)
  · exact (frRow (Fr.quiet (S := fun _ => False) (nextA (Mem.start w) (.cells old T))) (fun hh => by omega) new).below (Nat.le_refl _) fun _ h => h.elim
  · unfold World.setRow; simp
theorem bsame {l : List UInt8} (h : l.length = 256) : (Try.prog.info? 59).map (·.size) = some (bcells l).size ∧ (bcells z256).size = (bcells l).size := by
  rw [bcells_size, h, bcells_size, z256_len]; exact ⟨binfo, rfl⟩
/-- What Read leaves. -/
def ReadOk (w : World) (v : List UInt8) (x : Int) (e : Ending) (w' : World) : Prop := ∃ A c, e = .returned (.tuple #[.slice A v.length c, .int .i64 x]) ∧ Row w' w.heap.size A (v.map u8v) ∧ Below w.heap.size w w' ∧ v.length ≤ c ∧ c ≤ 256
section
variable {F : Nat → Prop} {p : Nat} {s : DS} {w : World}
set_option maxRecDepth 100000 in
set_option maxHeartbeats 2000000 in
theorem read_any (h : DkA F p s w) (i : Int) (hi : I64 i) : Calls Try.prog 12 #[.pointer (some ⟨p, 0, none⟩), .int .i64 i] w (ReadOk w (if s.may i 0 = 0 then s.N i else []) (s.may i 0)) := by
  have HM := Lib.hid (may_any h i none 0 0)
  obtain ⟨ms, mn, A, c, hd⟩ := h
  have h2 := hd.cells.2.2.1
  have hlk := hd.mN.look (t := 60) (e := 59) (Maps.int_keyed Try.underlying3) Try.underlying60 Try.underlying3 (zeroB w) i hi
  have HL := Lib.hid (hd.lens.2.2 i)
  obtain ⟨x, hx⟩ : ∃ x, s.may i 0 = x := ⟨_, rfl⟩
  rw [hx] at HM ⊢
  clear hd hx
  by_cases h0 : x = 0
  · subst h0
    rw [if_pos rfl]
    have hz := zeroB
    go_enter Try.func12, Try.ntmps12
    go_wp2_with fail
    refine HM.out.mono ?_
    rintro e w' ⟨rfl, rfl⟩
    go_wp2_with ((with_reducible show wpList _ _ _ ((⟨none, .store 59 (.tmp 7) (.tmp 19), _, _, _, _⟩ : Oper) :: _) _ _); refine wpList_store_new w rfl 59 (.tmp 7) (.tmp 19) rfl 59 (bcells z256) (bcells (s.N i)) rfl rfl (bsame HL.out).1 (bsame HL.out).2 (bcells_one _) ?_; intro w1 hb1 hw1 hs1; have HW := Lib.hid (And.intro hb1 hw1); clear hb1 hw1 hs1)
    go_ret2
    exact ⟨some ⟨w.heap.size, 0, none⟩, 256, by rw [HL.out]; rfl, rowOf HW.out.1 (Nat.le_refl _), HW.out.2, by rw [HL.out]; exact Nat.le_refl _, Nat.le_refl _⟩
  · rw [if_neg h0]
    have h1 : (x == 0) = false := by simp [h0]
    clear hlk
    go_enter Try.func12, Try.ntmps12
    go_wp2_with fail
    refine HM.out.mono ?_
    rintro e w' ⟨rfl, rfl⟩
    go_wp2_with fail
    go_ret2
    exact ⟨none, 0, rfl, fun h => by simp at h, Mem.start _, Nat.le_refl _, Nat.zero_le _⟩
end
end Go.Proofs.Ytjpelifafmkdpaa.DkW
