/- The law's helper few. -/
import Derived.Test.YtbinffclijjhlaaFieldsPlain
namespace Go.Proofs.Ytbinffclijjhlaa.FdW
open Go.RowKit Mem Fds
open Go.Proofs.Ytbinffclijjhlaa.Open (OneF Flds)
set_option linter.unusedVariables false

theorem flat_at {l : List OneF} {j k : Nat} (hj : j < l.length) (hk : k < 3) : (l.flatMap OneF.cells)[j * 3 + k]? = (l[j].cells)[k]? := by
  induction l generalizing j with
  | nil => cases hj
  | cons a r ih =>
    rw [List.flatMap_cons]
    cases j with
    | zero => rw [List.getElem?_append_left (by simp [OneF.cells]; omega)]; simp
    | succ j =>
      rw [List.getElem?_append_right (by simp [OneF.cells]; omega)]
      have := ih (j := j) (by simpa using hj)
      simpa [OneF.cells, show (j + 1) * 3 + k - 3 = j * 3 + k by omega] using this
theorem Flds.at_ {w : World} {B : Nat} {A : Option Addr} {l : List OneF} (h : Flds w B A l) {j : Nat} (hj : j < l.length) :
    ∃ b off, A = some ⟨b, off, none⟩ ∧ b < B ∧ w.cell? ⟨b, off + j * 3, none⟩ = some (.int .u8 (l[j].sz.toNat : Int)) ∧ w.cell? ⟨b, off + j * 3 + 1, none⟩ = some (.int .u64 (l[j].n : Int)) ∧ w.cell? ⟨b, off + j * 3 + 2, none⟩ = some (.slice l[j].A l[j].b.length l[j].c) := by
  have hl : ∀ k, k < 3 → (l.flatMap OneF.cells)[j * 3 + k]? = (l[j].cells)[k]? := fun k hk => flat_at hj hk
  have hpos : 0 < (l.flatMap OneF.cells).length := by
    have := (List.getElem?_eq_some_iff.1 ((hl 0 (by decide)).trans rfl)).1
    omega
  obtain ⟨b, off, e, hb, hc⟩ := h.cells hpos
  refine ⟨b, off, e, hb, ?_, ?_, ?_⟩
  · exact hc (j * 3 + 0) _ ((hl 0 (by decide)).trans rfl)
  · exact hc (j * 3 + 1) _ ((hl 1 (by decide)).trans rfl)
  · exact hc (j * 3 + 2) _ ((hl 2 (by decide)).trans rfl)
theorem Flds.below {w w' : World} {B : Nat} {A : Option Addr} {l : List OneF} (h : Flds w B A l) (hb : Below B w w') : Flds w' B A l :=
  ⟨h.cells.below hb, fun x hx => ⟨(h.each x hx).1, (h.each x hx).2.below hb⟩⟩
def total (l : List OneF) : Nat := (l.map fun x => x.b.length).sum
theorem total_take (l : List OneF) (j : Nat) (hj : j < l.length) : total (l.take (j + 1)) = total (l.take j) + l[j].b.length := by
  rw [total, List.take_succ_eq_append_getElem hj, List.map_append, List.sum_append]; simp [total]
theorem total_le (l : List OneF) (hb : ∀ x ∈ l, x.b.length ≤ 140737488355328) : total l ≤ l.length * 140737488355328 := by
  induction l with
  | nil => simp [total]
  | cons a r ih =>
    have h1 := hb a (by simp)
    have h2 := ih fun x hx => hb x (by simp [hx])
    simp only [total, List.map_cons, List.sum_cons, List.length_cons] at h2 ⊢
    omega
/-- At most 60 fields, of at most 2000 bytes. -/
def fewB (l : List OneF) : Bool := decide (l.length ≤ 60) && decide (total l ≤ 2000)
theorem few_step {l : List OneF} {j : Nat} {v : Int} (hj : j < l.length) (hb : ∀ x ∈ l, x.b.length ≤ 140737488355328) (h : l.length ≤ 60 → v = (total (l.take j) : Nat)) (h60 : l.length ≤ 60) : RowKit.wrap64 (v + (l[j].b.length : Int)) = ((total (l.take (j + 1)) : Nat) : Int) := by
  have h1 := h h60
  have h2 := total_take l j hj
  have h3 := total_le (l.take (j + 1)) fun x hx => hb x (List.mem_of_mem_take hx)
  rw [List.length_take] at h3
  unfold RowKit.wrap64
  omega
set_option maxHeartbeats 1000000 in
theorem few_any (w : World) (A : Option Addr) (l : List OneF) (c : Nat) (hF : Flds w w.heap.size A l) (hm : (l.length : Int) ≤ 9223372036854775807) (hb : ∀ x ∈ l, x.b.length ≤ 140737488355328) :
    Calls Try.prog 9 #[.slice A l.length c] w fun e w' => e = .returned (.bool (fewB l)) ∧ w = w' := by
  have HB := Lib.hid hb
  clear hb
  go_enter Try.func9, Try.ntmps9
  go_wp2_with fail
  go_loop [3, 4] (fun s i => ∃ (j : Nat) (v : Int), i = .int .i64 (j : Int) ∧ s = .int .i64 v ∧ j ≤ l.length ∧ (l.length ≤ 60 → v = (total (l.take j) : Nat))) (fun _ i => l.length - (intOf i).toNat)
  case atStart => exact ⟨0, 0, rfl, rfl, Nat.zero_le _, fun _ => by simp [total]⟩
  case round =>
    obtain ⟨j, v, rfl, rfl, hj, hv⟩ := hrel
    have HV := Lib.hid hv
    clear hv
    by_cases hjl : j < l.length
    · obtain ⟨b, off, rfl, hbl, hc0, hc1, hc2⟩ := Flds.at_ hF hjl
      have h1 : (j : Int) < (l.length : Int) := by omega
      have h0 : (0 : Int) ≤ (j : Int) := by omega
      go_wp2_with fail
      go_round
      case rel => exact ⟨j + 1, _, rfl, rfl, hjl, fun h60 => few_step hjl HB.out HV.out h60⟩
      case measure => simp [intOf]; omega
    · obtain rfl : j = l.length := by omega
      have hv := HV.out
      rw [List.take_length] at hv
      by_cases h60 : l.length ≤ 60
      · have hv' := hv h60
        subst hv'
        have h61 : (l.length : Int) ≤ 60 := by omega
        clear hv HV
        go_wp2_with fail
        go_ret
        refine ⟨congrArg (fun b => Ending.returned (.bool b)) ?_, rfl⟩
        simp [fewB, h60]
        omega
      · have h61 : ¬ (l.length : Int) ≤ 60 := by omega
        clear hv HV
        have hf : fewB l = false := by simp [fewB, h60]
        have HF2 := Lib.hid hf
        clear hf h60
        go_wp2_with fail
        go_ret
        exact ⟨by rw [HF2.out]; rfl, rfl⟩
end Go.Proofs.Ytbinffclijjhlaa.FdW
