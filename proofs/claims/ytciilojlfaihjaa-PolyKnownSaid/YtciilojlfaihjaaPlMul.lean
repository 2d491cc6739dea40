/- poly.Mul, poly.At, poly.Roots. -/
import Derived.Test.YtciilojlfaihjaaPlAdd
namespace Go.Proofs.Ytciilojlfaihjaa.PlW
open Go.RowKit Go.Shelf Mem Gf FdW Pl Rng
set_option linter.unusedVariables false
attribute [local go_sem] Oper.semAt_some wide_fn

/-- What a call leaves that makes a new row and may turn the field. -/
def NewF (w : World) (p : Nat) (l : List UInt8) (e : Ending) (w' : World) : Prop :=
  ∃ A c, e = .returned (.slice A l.length c) ∧ Mem.Own w' w.heap.size 5 A c (l.map u8v) ∧ Fld w' p ∧ Fr (fun k => k = p) w w'
theorem NewOk.newF {w w' : World} {p : Nat} {l : List UInt8} {e : Ending} (h : NewOk w l e w') (hp : Fld w p) : NewF w p l e w' := by
  obtain ⟨A, c, he, ho, hb⟩ := h
  exact ⟨A, c, he, ho, hp.keep hb, Fr.quiet hb⟩

section
variable {P : Program} {w : World}
/-- make of so many noughts of bytes. -/
theorem wpList_mk {ops : Array Oper} {rest : List Oper} {o : Oper} {a : Act} {Q : Exit → Act → World → Prop} (hg : o.guard = none) (l c : Operand) (t : TypeId) (hop : o.op = Op.makeSlice t l c)
    (e : TypeId) (i : TypeInfo) (bytes : Nat) (z : Value) (h1 : P.underlying t = some (.slice e)) (h2 : P.info? e = some i) (h3 : i.zero = some z) (h4 : i.size = 1) (h5 : i.bytes = bytes) (hzc : z.cells = #[z])
    (L : Int) (n : Nat) (hl : a.eval l = .int .i64 L) (hc : a.eval c = .int .i64 L) (hL : L = (n : Int)) (hn : bytes * n ≤ 281474976710656) (hn2 : n ≤ maxLen) (N : Nat) (hN : N = n)
    (hK : wpList P ops Q rest (a.put o.dst (.slice (some ⟨w.heap.size, 0, none⟩) N N)) (w.alloc (.cells (Array.replicate n z) e))) :
    wpList P ops Q (o :: rest) a w := by
  subst hL; subst hN
  have hrun := run_make (P := P) w t e i z h1 h2 h3 .i64 .i64 (N : Int) (N : Int) (by omega) (by omega) (by rw [h5, ← Int.natCast_mul]; omega) (by unfold maxLen at hn2; omega)
  rw [hzc, h4, Nat.mul_one, Int.toNat_natCast] at hrun
  rw [show madeCells #[z] N = Array.replicate N z from by apply Array.toList_inj.1; rw [toList_madeCells_one, Array.toList_replicate]] at hrun
  refine wpList_plain hg fun K hK' => ?_
  unfold Oper.wp
  simp only [execOp, hop, hl, hc, Sem.run_bind, Sem.run_pure, hrun, Result.andThen_ok]
  exact hK' _ _ hK
end

theorem mul_step {a b out : List UInt8} {j : Nat} (hj : j < a.length) (h : Eqv out (mulP (a.take j) b)) : Eqv (add out (sh j (sc (cf a j) b))) (mulP (a.take (j + 1)) b) := by
  have e : a.take (j + 1) = a.take j ++ [cf a j] := by rw [List.take_succ_eq_append_getElem hj, cf_lt hj]
  rw [e]
  have := (mulP_snoc (a.take j) (cf a j) b).symm
  rw [List.length_take, Nat.min_eq_left (Nat.le_of_lt hj)] at this
  exact (add_congr h (Eqv.refl _)).trans this
theorem eqv_zeros (n : Nat) : Eqv (List.replicate n 0) [] := fun k => by
  rw [cf_nil]; unfold cf
  rw [List.getD_eq_getElem?_getD, List.getElem?_replicate]
  split <;> rfl

set_option maxRecDepth 100000 in
set_option maxHeartbeats 1000000 in
theorem pmul_any (w : World) (p : Nat) (hp : Fld w p) (A : Option Addr) (a : List UInt8) (n ca : Nat) (hn : n = a.length) (B : Option Addr) (b : List UInt8) (m cb : Nat) (hm : m = b.length) (hl : (a.length : Int) + (b.length : Int) ≤ 100000) (hA : In w p A a) (hB : In w p B b) :
    Calls Try.prog 22 #[fptr (some p), .slice A n ca, .slice B m cb] w (NewF w p (trim (mulP a b))) := by
  obtain ⟨i0, hi0, hz0, hz1, hz2⟩ := info_parts u8info
  subst hn; subst hm
  have HA := Lib.hid hA
  have HB := Lib.hid hB
  have HP := Lib.hid hp
  have hla : (a.length : Int) ≤ 100000 := by omega
  have hlb : (b.length : Int) ≤ 100000 := by omega
  have HL := Lib.hid hl
  clear hA hB hp
  go_enter Try.func22, Try.ntmps22
  go_wp2_with ((with_reducible show wpList _ _ _ ((⟨some 15, _, _, _, _, _⟩ : Oper) :: _) _ _); refine wpList_mk rfl _ _ _ rfl 5 i0 1 (.int .u8 0) Try.underlying22 hi0 hz0 hz1 hz2 rfl _ (a.length + b.length) rfl rfl (by simp) (by omega) (by unfold maxLen; omega) (a.length + b.length) rfl ?_)
  have hO := own_made w (Array.replicate (a.length + b.length) (Value.int .u8 0)) 5 (by simp [maxLen]; omega) (Nat.le_refl w.heap.size)
  rw [Array.toList_replicate] at hO
  have hO2 : Mem.Own (w.alloc (.cells (Array.replicate (a.length + b.length) (Value.int .u8 0)) 5)) w.heap.size 5 (some ⟨w.heap.size, 0, none⟩) (a.length + b.length) ((List.replicate (a.length + b.length) (0 : UInt8)).map u8v) := by
    have e : (List.replicate (a.length + b.length) (0 : UInt8)).map u8v = List.replicate (a.length + b.length) (Value.int .u8 0) := by rw [List.map_replicate]; rfl
    rw [e]; simpa using hO
  have HO := Lib.hid hO2
  have HF0 := Lib.hid (Fr.alloc (Fr.refl (fun k => k = p) w) (.cells (Array.replicate (a.length + b.length) (Value.int .u8 0)) 5))
  have HP0 := Lib.hid (HP.out.keep (nextA (Mem.start w) (.cells (Array.replicate (a.length + b.length) (Value.int .u8 0)) 5)))
  clear hO hO2
  generalize w.alloc (.cells (Array.replicate (a.length + b.length) (Value.int .u8 0)) 5) = w1 at *
  go_loopw [18] (fun i wr => ∃ (j : Nat) (out : List UInt8), i = .int .i64 (j : Int) ∧ j ≤ a.length ∧ out.length = a.length + b.length ∧ Eqv out (mulP (a.take j) b) ∧ Mem.Own wr w.heap.size 5 (some ⟨w.heap.size, 0, none⟩) (a.length + b.length) (out.map u8v) ∧ Fld wr p ∧ Fr (fun k => k = p) w wr) (fun i _ => a.length - (intOf i).toNat)
  case atStart => exact ⟨0, List.replicate (a.length + b.length) 0, rfl, Nat.zero_le _, by simp, eqv_zeros _, HO.out, HP0.out, HF0.out⟩
  case round =>
    obtain ⟨j, out, rfl, hj, hol, hcf, ho, hf, hfr⟩ := hrel
    have HR := Lib.hid (And.intro ho (And.intro hf hfr))
    have HC := Lib.hid (And.intro hol hcf)
    clear ho hf hfr hol hcf
    by_cases hja : j < a.length
    · have hIA := HA.out.field HR.out.2.2
      obtain ⟨q, off, rfl, hq, hcell⟩ := hIA.1.at_ (k := j) hja
      rw [← cf_lt hja] at hcell
      have HST := Lib.hid (mul_step hja HC.out.2)
      have HM := Lib.hid (more_any wr p w.heap.size HR.out.2.1 (some ⟨w.heap.size, 0, none⟩) (a.length + b.length) out HR.out.1 B cb b (HB.out.field HR.out.2.2) (fun g o e hl e2 => by
        obtain ⟨g', o', e3, hg, _⟩ := HB.out.1 (by simpa using hl)
        rw [e] at e3; injection e3 with e3; injection e3 with e3 _
        injection e2 with e2; injection e2 with e2 _
        omega) (cf a j) j (by rw [HC.out.1]; omega) (by rw [HC.out.1]; have := HL.out; omega))
      rw [HC.out.1] at HM
      have hji : (j : Int) < (a.length : Int) := by omega
      clear hIA
      generalize cf a j = x at *
      go_wp2_with fail
      refine HM.out.mono ?_
      rintro e w2 ⟨t, rfl, ht, hev, ho2, hf2, hfr2⟩
      have H2 := Lib.hid (And.intro ho2 (And.intro hf2 hfr2))
      have HE := Lib.hid (And.intro (ht.trans HC.out.1) (hev.trans HST.out))
      clear ho2 hf2 hfr2 ht hev
      go_wp2_with fail
      go_roundw
      case rel => exact ⟨j + 1, t, rfl, hja, HE.out.1, HE.out.2, H2.out.1, H2.out.2.1, HR.out.2.2.trans H2.out.2.2 (fun i hi h => h.elim id (fun h => by injection h with h; injection h with h; omega))⟩
      case measure => simp [intOf]; omega
    · obtain rfl : j = a.length := by omega
      have HQ := Lib.hid HC.out.2
      rw [List.take_length] at HQ
      go_wp2_with fail
      refine (trim_any wr _ out (a.length + b.length) (a.length + b.length) HC.out.1.symm (by rw [HC.out.1]; have := HL.out; omega) (by rw [HC.out.1]; exact Nat.le_refl _) HR.out.1.bytes).mono ?_
      rintro e w3 ⟨O3, c3, rfl, ho, hb⟩
      rw [trim_congr HQ.out] at ho ⊢
      have H3 := Lib.hid (And.intro ho hb)
      clear ho hb
      go_wp2_with fail
      go_ret
      exact ⟨O3, c3, rfl, H3.out.1.down HR.out.2.2.size, HR.out.2.1.keep H3.out.2, HR.out.2.2.trans (Fr.quiet (S := fun _ => False) H3.out.2) (fun _ _ h => h.elim)⟩
end Go.Proofs.Ytciilojlfaihjaa.PlW
