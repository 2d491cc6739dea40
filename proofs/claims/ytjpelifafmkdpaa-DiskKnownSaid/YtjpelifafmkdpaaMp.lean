/- A map from int to rows of bytes that are values (arrays): its laws in one word. -/
import Derived.Test.YtjpelifafmkdpaaFr
import Derived.Maps.OwnSet
import Derived.Maps.Views
import Derived.Deep.MidRow
import Derived.WideKeyEntry
namespace Go.Proofs.Ytjpelifafmkdpaa.Mem
open Go.RowKit
open Go.Maps (Keyed)
set_option linter.unusedVariables false

/-- The cells of bytes. -/
def bcells (l : List UInt8) : Array Value := (l.map u8v).toArray
theorem u8v_inj {a b : UInt8} (h : u8v a = u8v b) : a = b := by
  unfold u8v at h
  injection h with _ h
  exact UInt8.toNat_inj.1 (by omega)
theorem bcells_inj {a b : List UInt8} (h : bcells a = bcells b) : a = b := by
  have h2 : a.map u8v = b.map u8v := by have := congrArg Array.toList h; exact this
  exact List.map_inj_right (fun _ _ h => u8v_inj h) |>.1 h2
theorem bcells_size (l : List UInt8) : (bcells l).size = l.length := by simp [bcells]
open Classical in
/-- How such a value reads: as a text. -/
noncomputable def rdB (v : Value) : Option (DataW Unit × List MemPlace) := if h : ∃ l, v = .agg (bcells l) then some (.lit (.string h.choose), []) else none
theorem rdB_mk (l : List UInt8) : rdB (.agg (bcells l)) = some (.lit (.string l), []) := by
  unfold rdB
  have h : ∃ l', (Value.agg (bcells l)) = .agg (bcells l') := ⟨l, rfl⟩
  rw [dif_pos h]
  have h2 := h.choose_spec
  injection h2 with h2
  rw [← bcells_inj h2]
theorem rdB_inv {v : Value} {l : List UInt8} {ps : List MemPlace} (h : rdB v = some (.lit (.string l), ps)) : v = .agg (bcells l) := by
  unfold rdB at h
  split at h
  · rename_i hx
    have h2 := hx.choose_spec
    injection h with h
    injection h with h _
    injection h with h
    injection h with h
    rw [← h]; exact h2
  · cases h
def I64 (i : Int) : Prop := -9223372036854775808 ≤ i ∧ i ≤ 9223372036854775807
theorem I64.wf {i : Int} (h : I64 i) : (Lit.int .i64 i).wf = true := by
  simp [Lit.wf]
  exact ⟨h.1, h.2⟩
/-- Block b of w is a map of at most n entries: at key i it tells f i (z where there is none). -/
def MapB (P : Program) (k : TypeId) (w : World) (b n : Nat) (z : List UInt8) (f : Int → List UInt8) : Prop :=
  ∃ D, w.ownsMap P k rdB b n D ∧ ∀ i : Int, I64 i → D.atKey (.int .i64 i) (.lit (.string z)) = .lit (.string (f i))
def upd (f : Int → List UInt8) (i : Int) (l : List UInt8) : Int → List UInt8 := fun j => if j = i then l else f j
section
variable {P : Program} {k t e : TypeId} {w w' : World} {b n : Nat} {z : List UInt8} {f : Int → List UInt8}
theorem MapB.made (w : World) (P : Program) (k : TypeId) (z : List UInt8) : MapB P k (w.alloc (.map #[] 0)) w.heap.size 0 z (fun _ => z) := ⟨_, World.ownsMap_made w P k rdB, fun _ _ => rfl⟩
theorem MapB.lt (h : MapB P k w b n z f) : b < w.heap.size := by obtain ⟨D, h, _⟩ := h; exact h.lt
theorem MapB.mono (h : MapB P k w b n z f) {n' : Nat} (hn : n ≤ n') : MapB P k w b n' z f := by obtain ⟨D, h, h2⟩ := h; exact ⟨D, h.mono hn, h2⟩
theorem MapB.fr {S : Nat → Prop} (h : MapB P k w b n z f) (hf : Fr S w w') (hS : ¬ S b) : MapB P k w' b n z f := by
  obtain ⟨D, h, h2⟩ := h
  have hlt := h.lt
  obtain ⟨es, clock, hb, r⟩ := h
  exact ⟨D, ⟨es, clock, (hf.block b hlt hS).trans hb, r⟩, h2⟩
theorem MapB.keep (h : MapB P k w b n z f) (hb : Below w.heap.size w w') : MapB P k w' b n z f := h.fr (Fr.quiet (S := fun _ => False) hb) fun h => h
theorem MapB.look (h : MapB P k w b n z f) (K : Keyed P k) (ht : P.underlying t = some (.map k e)) (hk : P.underlying k = some (.int .i64)) (hz : (zeroValue e).run P w = .ok (.agg (bcells z)) w) (i : Int) (hi : I64 i) :
    (Instr.lookup t (.map (some b)) (.int .i64 i) false).run P w = .ok (.agg (bcells (f i))) w := by
  obtain ⟨D, h, h2⟩ := h
  obtain ⟨v, ps, hr, hv⟩ := h.lookup K ht hz (rdB_mk z) (Maps.keyOf_int_mk hk hi.wf)
  rw [h2 i hi] at hv
  rw [hr, rdB_inv hv]
theorem MapB.store (h : MapB P k w b n z f) (K : Keyed P k) (ht : P.underlying t = some (.map k e)) (hk : P.underlying k = some (.int .i64)) (hn : n < maxLen) (i : Int) (hi : I64 i) (l : List UInt8) :
    ∃ w', (Instr.mapUpdate t (.map (some b)) (.int .i64 i) (.agg (bcells l))).run P w = .ok () w' ∧ MapB P k w' b (n + 1) z (upd f i l) ∧ w.grownBy w' (some b) := by
  obtain ⟨D, h, h2⟩ := h
  obtain ⟨w', hr, h3, h4⟩ := h.update K ht hn (Maps.keyOf_int_mk hk hi.wf) (rdB_mk l)
  refine ⟨w', hr, ⟨_, h3, fun j hj => ?_⟩, h4⟩
  unfold upd
  by_cases e : j = i
  · subst e
    rw [if_pos rfl, Maps.atKey_put_same h.isMap (by trivial)]
  · rw [if_neg e, Maps.atKey_put_other (fun h => e (by injection h)) _ _]
    exact h2 j hj
/-- A place for key i, and what is laid there later: as if it were laid at once. -/
theorem entry_later (K : Keyed P k) (ht : P.underlying t = some (.map k e)) {zv : Value} (hz : (zeroValue e).run P w = .ok zv w) {es : Array MapEntry} {clock : Nat} (hb : w.heap[b]? = some (.map es clock)) (F : WideElems.Fit P k rdB es clock) {key : Value} {kl : Lit} (hkey : keyOf P k key = some kl) :
    ∃ (v0 : Value) (st : Nat) (es1 : Array MapEntry) (clock1 : Nat), (Instr.mapEntry t (.map (some b)) key).run P w = .ok (.tuple #[v0, goInt st]) (ChangeMaps.setBlock w b (.map es1 clock1)) ∧
      ∀ (w2 : World) (val : Value), w2.heap[b]? = some (.map es1 clock1) → ∃ es' clock', (Instr.entryStore t (.map (some b)) (goInt st) val).run P w2 = .ok () (ChangeMaps.setBlock w2 b (.map es' clock')) ∧ (Instr.mapUpdate t (.map (some b)) key val).run P w = .ok () (ChangeMaps.setBlock w b (.map es' clock')) := by
  have hst := F.stamped
  rcases K.find w hkey es.toList F.keys with ⟨h1, h2⟩ | ⟨j, e0, h1, h2, h3⟩
  · refine ⟨zv, clock, es.push ⟨key, zv, clock⟩, clock + 1, ?_, fun w2 val hw2 => ⟨es.push ⟨key, val, clock⟩, clock + 1, ?_, ?_⟩⟩
    · simp [Instr.mapEntry, run_underlying ht, MapKept.run_getObj_map hb, K.check w false hkey, h1, hz, MapKept.run_setObj_map _ hb, Result.andThen, ChangeMaps.setBlock]
    · have hnd : ((es.push ⟨key, zv, clock⟩).toList.map (·.born)).Nodup := by
        rw [Array.toList_push, List.map_append]
        refine List.nodup_append.2 ⟨hst.2.1, by simp, fun x hx y hy => ?_⟩
        obtain ⟨m, hm, rfl⟩ := List.mem_map.1 hx
        have := hst.1 m hm
        simp at hy
        omega
      have hidx : (es.push ⟨key, zv, clock⟩).findIdx? (fun m => ((m.born : Nat) : Int) == ((clock : Nat) : Int)) = some es.size := by
        rw [WideElems.findIdx_arr]
        exact WideElems.findIdx_born (e0 := ⟨key, zv, clock⟩) hnd (by simp)
      have hmod : (es.push ⟨key, zv, clock⟩).modify es.size (fun m => { m with val := val }) = es.push ⟨key, val, clock⟩ := by
        apply Array.ext'
        rw [Array.toList_modify, Array.toList_push, Array.toList_push, ← Array.length_toList, WideElems.modify_last]
      simp [Instr.entryStore, MapKept.run_getObj_map hw2, asInt, asIntOf, goInt, hidx, hmod, MapKept.run_setObj_map _ hw2, Result.andThen, ChangeMaps.setBlock]
    · simp [Instr.mapUpdate, run_underlying ht, MapKept.run_getObj_map hb, K.check w false hkey, h1, MapKept.run_setObj_map _ hb, Result.andThen, ChangeMaps.setBlock]
  · have hj : es[j]? = some e0 := by simpa using h2
    have hsame : es.modify j (fun m => { m with key := key }) = es := by
      apply Array.ext'
      rw [Array.toList_modify, ChangeMaps.modify_eq_set _ _ _ _ h2]
      rw [show ({ e0 with key := key } : MapEntry) = e0 from by rw [← h3]]
      exact WideElems.set_self _ _ _ h2
    refine ⟨e0.val, e0.born, es, clock, ?_, fun w2 val hw2 => ⟨es.modify j (fun m => { m with key := key, val := val }), clock, ?_, ?_⟩⟩
    · simp [Instr.mapEntry, run_underlying ht, MapKept.run_getObj_map hb, K.check w false hkey, h1, hj, h3, K.stays w hkey, hsame, MapKept.run_setObj_map _ hb, Result.andThen, ChangeMaps.setBlock]
    · have hidx : es.findIdx? (fun m => ((m.born : Nat) : Int) == ((e0.born : Nat) : Int)) = some j := by
        rw [WideElems.findIdx_arr]
        exact WideElems.findIdx_born hst.2.1 h2
      have hmod : es.modify j (fun m => { m with val := val }) = es.modify j (fun m => { m with key := key, val := val }) := by
        apply Array.ext'
        rw [Array.toList_modify, Array.toList_modify, ChangeMaps.modify_eq_set _ _ _ _ h2, ChangeMaps.modify_eq_set _ _ _ _ h2, ← h3]
      simp [Instr.entryStore, MapKept.run_getObj_map hw2, asInt, asIntOf, goInt, hidx, hmod, MapKept.run_setObj_map _ hw2, Result.andThen, ChangeMaps.setBlock]
    · simp [Instr.mapUpdate, run_underlying ht, MapKept.run_getObj_map hb, K.check w false hkey, h1, hj, h3, K.stays w hkey, MapKept.run_setObj_map _ hb, Result.andThen, ChangeMaps.setBlock]
theorem MapB.entry (h : MapB P k w b n z f) (K : Keyed P k) (ht : P.underlying t = some (.map k e)) (hk : P.underlying k = some (.int .i64)) (hz : (zeroValue e).run P w = .ok (.agg (bcells z)) w) (hn : n < maxLen) (i : Int) (hi : I64 i) (l : List UInt8) :
    ∃ (v0 : Value) (st : Nat) (w1 : World), (Instr.mapEntry t (.map (some b)) (.int .i64 i)).run P w = .ok (.tuple #[v0, goInt (st : Nat)]) w1 ∧ w.grownBy w1 (some b) ∧ w1.heap.size = w.heap.size ∧
      ∀ w2 : World, w2.heap[b]? = w1.heap[b]? → ∃ w3, (Instr.entryStore t (.map (some b)) (goInt (st : Nat)) (.agg (bcells l))).run P w2 = .ok () w3 ∧ MapB P k w3 b (n + 1) z (upd f i l) ∧ w2.grownBy w3 (some b) ∧ w3.heap.size = w2.heap.size := by
  obtain ⟨w', hr, ⟨D, hD, hD2⟩, _⟩ := h.store K ht hk hn i hi l
  obtain ⟨D0, ⟨es, clock, hb, F, _, _⟩, _⟩ := h
  obtain ⟨v0, st, es1, clock1, h1, h2⟩ := entry_later K ht hz hb F (Maps.keyOf_int_mk hk hi.wf)
  have hsz : ∀ (w : World) (o : Obj), (ChangeMaps.setBlock w b o).heap.size = w.heap.size := fun w o => by simp [ChangeMaps.setBlock]
  have hg : ∀ (w : World) {es : Array MapEntry} {clock : Nat} (hb : w.heap[b]? = some (.map es clock)) (o : Obj), w.grownBy (ChangeMaps.setBlock w b o) (some b) := fun w es clock hb o => ⟨rfl, rfl, rfl, by rw [hsz]; exact Nat.le_refl _, fun j hj hne => ?_⟩
  · refine ⟨v0, st, _, h1, hg w hb _, hsz _ _, fun w2 hw2 => ?_⟩
    rw [ChangeMaps.heap_setBlock_same hb _] at hw2
    obtain ⟨es', clock', h3, h4⟩ := h2 w2 (.agg (bcells l)) hw2
    refine ⟨_, h3, ⟨D, ?_, hD2⟩, hg w2 hw2 _, hsz _ _⟩
    rw [h4] at hr
    injection hr with _ hr
    subst hr
    obtain ⟨es2, clock2, hb2, r⟩ := hD
    rw [ChangeMaps.heap_setBlock_same hb _] at hb2
    exact ⟨es2, clock2, (ChangeMaps.heap_setBlock_same hw2 _).trans hb2, r⟩
  · exact ChangeMaps.heap_setBlock_other hb _ (fun e => hne (by rw [e]))
end
end Go.Proofs.Ytjpelifafmkdpaa.Mem
