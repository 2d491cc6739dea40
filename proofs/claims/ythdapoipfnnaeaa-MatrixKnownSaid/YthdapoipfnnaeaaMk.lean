/- make of so many noughts: the walk's law. -/
import Derived.Test.YthdapoipfnnaeaaFr
namespace Go.Proofs.Ythdapoipfnnaeaa.Mem
open Go.RowKit Go.Lib
section
variable {P : Program} {w : World}
theorem wpList_mk {ops : Array Oper} {rest : List Oper} {o : Oper} {a : Act} {Q : Exit → Act → World → Prop} (hg : o.guard = none) (l c : Operand) (t : TypeId) (hop : o.op = Op.makeSlice t l c)
    (e : TypeId) (i : TypeInfo) (bytes : Nat) (z : Value) (h1 : P.underlying t = some (.slice e)) (h2 : P.info? e = some i) (h3 : i.zero = some z) (h4 : i.size = 1) (h5 : i.bytes = bytes) (hzc : z.cells = #[z])
    (L : Int) (n : Nat) (hl : a.eval l = .int .i64 L) (hc : a.eval c = .int .i64 L) (hL : L = (n : Int)) (hn : bytes * n ≤ 281474976710656) (hn2 : n ≤ maxLen) (N : Nat) (hN : N = n)
    (hK : wpList P ops Q rest (a.put o.dst (.slice (some ⟨w.heap.size, 0, none⟩) N N)) (w.alloc (.cells (Array.replicate n z) e))) :
    wpList P ops Q (o :: rest) a w := by
  subst hL; subst hN
  have hrun := run_make (P := P) w t e i z h1 h2 h3 .i64 .i64 (N : Int) (N : Int) (by omega) (by omega) (by rw [h5, ← Int.natCast_mul]; omega) (by unfold maxLen at hn2; omega)
  rw [hzc, h4, Nat.mul_one, Int.toNat_natCast] at hrun
  rw [show madeCells #[z] N = Array.replicate N z from by apply Array.toList_inj.1; rw [toList_madeCells_one, Array.toList_replicate]] at hrun
  refine wpList_plain hg fun K hK' => ?_
  unfold Oper.wp
  simp only [execOp, hop, hl, hc, Sem.run_bind, Sem.run_pure, hrun, Result.andThen_ok]
  exact hK' _ _ hK
/-- The row that make leaves. -/
theorem own_mk (w : World) (n : Nat) (z : Value) (T : TypeId) (hn : n ≤ maxLen) {base : Nat} (hb : base ≤ w.heap.size) : Own (w.alloc (.cells (Array.replicate n z) T)) base T (some ⟨w.heap.size, 0, none⟩) n (List.replicate n z) := by
  have h := own_made w (Array.replicate n z) T (by rw [Array.size_replicate]; exact hn) hb
  rw [Array.toList_replicate, Array.size_replicate] at h
  exact h
end
end Go.Proofs.Ythdapoipfnnaeaa.Mem
