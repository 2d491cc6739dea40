/- SameBytes, SameInts. -/
import Derived.Test.YtaeoocpiggebmaaPtRefCos
namespace Go.Proofs.Ytaeoocpiggebmaa.PtW
open Go.RowKit Mem Gf FdW
set_option linter.unusedSimpArgs false
set_option linter.unusedVariables false

/-- Are two lists the same? -/
def sameB (a b : List UInt8) : Bool := decide (a = b)
theorem sameB_yes {a b : List UInt8} (h : a = b) : sameB a b = true := by simp [sameB, h]
theorem sameB_no {a b : List UInt8} (h : a ≠ b) : sameB a b = false := by simp [sameB, h]
theorem str_beq (a b : List UInt8) : ((str a).toList == (str b).toList) = sameB a b := by
  rw [str_toList, str_toList, Bool.eq_iff_iff, beq_iff_eq, sameB, decide_eq_true_iff]
set_option maxHeartbeats 400000 in
theorem same_any (w : World) {M M' : Nat} {A B : Option Addr} {a b : List UInt8} (hA : Bytes w M A a) (hB : Bytes w M' B b) (n m ca cb : Nat) (hn : n = a.length) (hm : m = b.length) :
    Calls Try.prog 16 #[.slice A n ca, .slice B m cb] w fun e w' => e = .returned (.bool (sameB a b)) ∧ w = w' := by
  subst hn; subst hm
  have ea := run_str (P := Try.prog) w 24 5 Try.underlying24 Try.underlying5 hA ca 9 Try.underlying9
  have eb := run_str (P := Try.prog) w 24 5 Try.underlying24 Try.underlying5 hB cb 9 Try.underlying9
  have HE := Lib.hid (str_beq a b)
  clear hA hB
  go_enter Try.func16, Try.ntmps16
  go_wp2_with fail
  go_ret
  exact ⟨by rw [← HE.out]; rfl, rfl⟩

/-- A number as a value of a []int. -/
def i64v (x : Int) : Value := .int .i64 x
set_option maxRecDepth 100000 in
set_option maxHeartbeats 4000000 in
theorem sameInts_any (w : World) {A B : Option Addr} {a b : List Int} (hA : Cells w w.heap.size A (a.map i64v)) (hB : Cells w w.heap.size B (b.map i64v)) (n m ca cb : Nat) (hn : n = a.length) (hm : m = b.length) (ha : (a.length : Int) ≤ 1000) :
    Calls Try.prog 18 #[.slice A n ca, .slice B m cb] w fun e w' => e = .returned (.bool (decide (a = b))) ∧ Below w.heap.size w w' := by
  by_cases hl : m = n
  · subst hl
    have HA := Lib.hid (And.intro (And.intro hn hm) (And.intro hA hB))
    have ha0 : (m : Int) ≤ 1000 := by omega
    clear hA hB hn hm ha
    go_enter Try.func18, Try.ntmps18
    go_wp2_with fail
    go_loopw [5] (fun i wr => ∃ k : Nat, i = .int .i64 (k : Int) ∧ k ≤ m ∧ (∀ j, j < k → a[j]? = b[j]?) ∧ Below w.heap.size w wr) (fun i _ => m - (intOf i).toNat)
    case atStart => exact ⟨0, rfl, by omega, fun j h => by omega, Mem.start w⟩
    case round =>
      obtain ⟨k, rfl, hk, hs, hb⟩ := hrel
      have HR := Lib.hid (And.intro hs hb)
      clear hs hb
      by_cases hkm : k < m
      · have hki : (k : Int) < (m : Int) := by omega
        have hk0 : (0 : Int) ≤ (k : Int) := by omega
        obtain ⟨ga, oa, rfl, hga, hca⟩ := HA.out.2.1.at_ (k := k) (by rw [List.length_map]; have := HA.out.1.1; omega)
        obtain ⟨gb, ob, rfl, hgb, hcb⟩ := HA.out.2.2.at_ (k := k) (by rw [List.length_map]; have := HA.out.1.2; omega)
        rw [List.getElem_map] at hca hcb
        have HX := Lib.hid (And.intro (List.getElem?_eq_getElem (l := a) (i := k) (by have := HA.out.1.1; omega)) (List.getElem?_eq_getElem (l := b) (i := k) (by have := HA.out.1.2; omega)))
        replace hca := (HR.out.2.cell hga).trans hca
        replace hcb := (HR.out.2.cell hgb).trans hcb
        obtain ⟨x, hx⟩ : ∃ x, a[k]'(by have := HA.out.1.1; omega) = x := ⟨_, rfl⟩
        obtain ⟨y, hy⟩ : ∃ y, b[k]'(by have := HA.out.1.2; omega) = y := ⟨_, rfl⟩
        rw [hx, hy] at HX
        rw [hx] at hca
        rw [hy] at hcb
        unfold i64v at hca hcb
        clear hx hy
        by_cases hxy : x = y
        · subst hxy
          go_wp2_with fail
          --HELD6a
          refine wp_region_noPanic ?_
          refine wp_region_held_drew (S := fun w' => w'.cell? ⟨ga, oa + k, none⟩ = some (.int .i64 x) ∧ w'.cell? ⟨gb, ob + k, none⟩ = some (.int .i64 x) ∧ Below w.heap.size w w') (by kernel_rfl) ?hs0 ?rg0
          case hs0 =>
            exact ⟨hca, hcb, next HR.out.2 (nextN (Mem.start wr) 1)⟩
          case rg0 =>
          intro hHeld
          refine wpAnyH_take (i := 0) (oi := { dst := some 17, op := Op.move (Operand.tmp 0), type := 35, pos := _, after := #[], guard := none }) (v := ?_) rfl (by kernel_rfl) (by kernel_rfl) (by kernel_rfl) (fun _ _ _ h => h) (Or.inl ⟨by rfl, ?_⟩) (by assumption) ?_
          rotate_left
          · intro w hSw
            try dsimp only at hSw
            go_simp
            try with_reducible rfl
          try simp only [Act.put, List.setIfInBounds_toArray, List.set_cons_zero, List.set_cons_succ]
          refine wpAnyH_take (i := 1) (oi := { dst := some 18, op := Op.move (Operand.tmp 5), type := 3, pos := _, after := #[], guard := none }) (v := ?_) rfl (by kernel_rfl) (by kernel_rfl) (by kernel_rfl) (fun _ _ _ h => h) (Or.inl ⟨by rfl, ?_⟩) (by assumption) ?_
          rotate_left
          · intro w hSw
            try dsimp only at hSw
            go_simp
            try with_reducible rfl
          try simp only [Act.put, List.setIfInBounds_toArray, List.set_cons_zero, List.set_cons_succ]
          refine wpAnyH_take (i := 2) (oi := { dst := some 19, op := Op.indexAddr 35 (Operand.tmp 17) (Operand.tmp 18), type := 0, pos := _, after := #[{ on := 0, ground := Ground.data }, { on := 1, ground := Ground.data }], guard := none }) (v := ?_) rfl (by kernel_rfl) (by kernel_rfl) (by kernel_rfl) (fun _ _ _ h => h) (Or.inl ⟨by rfl, ?_⟩) (by assumption) ?_
          rotate_left
          · intro w hSw
            try dsimp only at hSw
            go_simp
            try with_reducible rfl
          try simp only [Act.put, List.setIfInBounds_toArray, List.set_cons_zero, List.set_cons_succ]
          refine wpAnyH_take (i := 3) (oi := { dst := some 20, op := Op.load 3 (Operand.tmp 19), type := 3, pos := _, after := #[{ on := 2, ground := Ground.data }], guard := none }) (v := ?_) rfl (by kernel_rfl) (by kernel_rfl) (by kernel_rfl) (fun _ _ _ h => h) (Or.inl ⟨by rfl, ?_⟩) (by assumption) ?_
          rotate_left
          · intro w hSw
            try dsimp only at hSw
            go_simp
            try with_reducible rfl
          try simp only [Act.put, List.setIfInBounds_toArray, List.set_cons_zero, List.set_cons_succ]
          refine wpAnyH_take (i := 4) (oi := { dst := some 21, op := Op.move (Operand.tmp 1), type := 35, pos := _, after := #[], guard := none }) (v := ?_) rfl (by kernel_rfl) (by kernel_rfl) (by kernel_rfl) (fun _ _ _ h => h) (Or.inl ⟨by rfl, ?_⟩) (by assumption) ?_
          rotate_left
          · intro w hSw
            try dsimp only at hSw
            go_simp
            try with_reducible rfl
          try simp only [Act.put, List.setIfInBounds_toArray, List.set_cons_zero, List.set_cons_succ]
          refine wpAnyH_take (i := 5) (oi := { dst := some 22, op := Op.move (Operand.tmp 5), type := 3, pos := _, after := #[], guard := none }) (v := ?_) rfl (by kernel_rfl) (by kernel_rfl) (by kernel_rfl) (fun _ _ _ h => h) (Or.inl ⟨by rfl, ?_⟩) (by assumption) ?_
          rotate_left
          · intro w hSw
            try dsimp only at hSw
            go_simp
            try with_reducible rfl
          try simp only [Act.put, List.setIfInBounds_toArray, List.set_cons_zero, List.set_cons_succ]
          refine wpAnyH_take (i := 6) (oi := { dst := some 23, op := Op.indexAddr 35 (Operand.tmp 21) (Operand.tmp 22), type := 0, pos := _, after := #[{ on := 4, ground := Ground.data }, { on := 5, ground := Ground.data }], guard := none }) (v := ?_) rfl (by kernel_rfl) (by kernel_rfl) (by kernel_rfl) (fun _ _ _ h => h) (Or.inl ⟨by rfl, ?_⟩) (by assumption) ?_
          rotate_left
          · intro w hSw
            try dsimp only at hSw
            go_simp
            try with_reducible rfl
          try simp only [Act.put, List.setIfInBounds_toArray, List.set_cons_zero, List.set_cons_succ]
          refine wpAnyH_take (i := 7) (oi := { dst := some 24, op := Op.load 3 (Operand.tmp 23), type := 3, pos := _, after := #[{ on := 6, ground := Ground.data }], guard := none }) (v := ?_) rfl (by kernel_rfl) (by kernel_rfl) (by kernel_rfl) (fun _ _ _ h => h) (Or.inl ⟨by rfl, ?_⟩) (by assumption) ?_
          rotate_left
          · intro w hSw
            try dsimp only at hSw
            go_simp
            try with_reducible rfl
          try simp only [Act.put, List.setIfInBounds_toArray, List.set_cons_zero, List.set_cons_succ]
          refine wpAnyH_take (i := 8) (oi := { dst := some 25, op := Op.binOp BinOp.neq 3 (Operand.tmp 20) (Operand.tmp 24) 3, type := 4, pos := _, after := #[{ on := 3, ground := Ground.data }, { on := 7, ground := Ground.data }], guard := none }) (v := ?_) rfl (by kernel_rfl) (by kernel_rfl) (by kernel_rfl) (fun _ _ _ h => h) (Or.inl ⟨by rfl, ?_⟩) (by assumption) ?_
          rotate_left
          · intro w hSw
            try dsimp only at hSw
            go_simp
            try with_reducible rfl
          try simp only [Act.put, List.setIfInBounds_toArray, List.set_cons_zero, List.set_cons_succ]
          refine wpAnyH_done (by kernel_rfl) ?_ _
          refine NoPanic.normal ?_
          --END6a
          go_wp2_with fail
          go_roundw
          case rel =>
            refine ⟨k + 1, by simp, hkm, fun j hj => ?_, hHeld.2.2⟩
            rcases (by omega : j < k ∨ j = k) with hj | rfl
            · exact HR.out.1 j hj
            · rw [HX.out.1, HX.out.2]
          case measure => simp [intOf]; omega
        · have hd : decide (a = b) = false := by
            rw [decide_eq_false_iff_not]
            intro h
            have h1 := HX.out.1
            rw [h, HX.out.2] at h1
            injection h1 with h1
            exact hxy h1.symm
          go_wp2_with fail
          --HELD6b
          refine wp_region_noPanic ?_
          refine wp_region_held_drew (S := fun w' => w'.cell? ⟨ga, oa + k, none⟩ = some (.int .i64 x) ∧ w'.cell? ⟨gb, ob + k, none⟩ = some (.int .i64 y) ∧ Below w.heap.size w w') (by kernel_rfl) ?hs0 ?rg0
          case hs0 =>
            exact ⟨hca, hcb, next HR.out.2 (nextN (Mem.start wr) 1)⟩
          case rg0 =>
          intro hHeld
          refine wpAnyH_take (i := 0) (oi := { dst := some 17, op := Op.move (Operand.tmp 0), type := 35, pos := _, after := #[], guard := none }) (v := ?_) rfl (by kernel_rfl) (by kernel_rfl) (by kernel_rfl) (fun _ _ _ h => h) (Or.inl ⟨by rfl, ?_⟩) (by assumption) ?_
          rotate_left
          · intro w hSw
            try dsimp only at hSw
            go_simp
            try with_reducible rfl
          try simp only [Act.put, List.setIfInBounds_toArray, List.set_cons_zero, List.set_cons_succ]
          refine wpAnyH_take (i := 1) (oi := { dst := some 18, op := Op.move (Operand.tmp 5), type := 3, pos := _, after := #[], guard := none }) (v := ?_) rfl (by kernel_rfl) (by kernel_rfl) (by kernel_rfl) (fun _ _ _ h => h) (Or.inl ⟨by rfl, ?_⟩) (by assumption) ?_
          rotate_left
          · intro w hSw
            try dsimp only at hSw
            go_simp
            try with_reducible rfl
          try simp only [Act.put, List.setIfInBounds_toArray, List.set_cons_zero, List.set_cons_succ]
          refine wpAnyH_take (i := 2) (oi := { dst := some 19, op := Op.indexAddr 35 (Operand.tmp 17) (Operand.tmp 18), type := 0, pos := _, after := #[{ on := 0, ground := Ground.data }, { on := 1, ground := Ground.data }], guard := none }) (v := ?_) rfl (by kernel_rfl) (by kernel_rfl) (by kernel_rfl) (fun _ _ _ h => h) (Or.inl ⟨by rfl, ?_⟩) (by assumption) ?_
          rotate_left
          · intro w hSw
            try dsimp only at hSw
            go_simp
            try with_reducible rfl
          try simp only [Act.put, List.setIfInBounds_toArray, List.set_cons_zero, List.set_cons_succ]
          refine wpAnyH_take (i := 3) (oi := { dst := some 20, op := Op.load 3 (Operand.tmp 19), type := 3, pos := _, after := #[{ on := 2, ground := Ground.data }], guard := none }) (v := ?_) rfl (by kernel_rfl) (by kernel_rfl) (by kernel_rfl) (fun _ _ _ h => h) (Or.inl ⟨by rfl, ?_⟩) (by assumption) ?_
          rotate_left
          · intro w hSw
            try dsimp only at hSw
            go_simp
            try with_reducible rfl
          try simp only [Act.put, List.setIfInBounds_toArray, List.set_cons_zero, List.set_cons_succ]
          refine wpAnyH_take (i := 4) (oi := { dst := some 21, op := Op.move (Operand.tmp 1), type := 35, pos := _, after := #[], guard := none }) (v := ?_) rfl (by kernel_rfl) (by kernel_rfl) (by kernel_rfl) (fun _ _ _ h => h) (Or.inl ⟨by rfl, ?_⟩) (by assumption) ?_
          rotate_left
          · intro w hSw
            try dsimp only at hSw
            go_simp
            try with_reducible rfl
          try simp only [Act.put, List.setIfInBounds_toArray, List.set_cons_zero, List.set_cons_succ]
          refine wpAnyH_take (i := 5) (oi := { dst := some 22, op := Op.move (Operand.tmp 5), type := 3, pos := _, after := #[], guard := none }) (v := ?_) rfl (by kernel_rfl) (by kernel_rfl) (by kernel_rfl) (fun _ _ _ h => h) (Or.inl ⟨by rfl, ?_⟩) (by assumption) ?_
          rotate_left
          · intro w hSw
            try dsimp only at hSw
            go_simp
            try with_reducible rfl
          try simp only [Act.put, List.setIfInBounds_toArray, List.set_cons_zero, List.set_cons_succ]
          refine wpAnyH_take (i := 6) (oi := { dst := some 23, op := Op.indexAddr 35 (Operand.tmp 21) (Operand.tmp 22), type := 0, pos := _, after := #[{ on := 4, ground := Ground.data }, { on := 5, ground := Ground.data }], guard := none }) (v := ?_) rfl (by kernel_rfl) (by kernel_rfl) (by kernel_rfl) (fun _ _ _ h => h) (Or.inl ⟨by rfl, ?_⟩) (by assumption) ?_
          rotate_left
          · intro w hSw
            try dsimp only at hSw
            go_simp
            try with_reducible rfl
          try simp only [Act.put, List.setIfInBounds_toArray, List.set_cons_zero, List.set_cons_succ]
          refine wpAnyH_take (i := 7) (oi := { dst := some 24, op := Op.load 3 (Operand.tmp 23), type := 3, pos := _, after := #[{ on := 6, ground := Ground.data }], guard := none }) (v := ?_) rfl (by kernel_rfl) (by kernel_rfl) (by kernel_rfl) (fun _ _ _ h => h) (Or.inl ⟨by rfl, ?_⟩) (by assumption) ?_
          rotate_left
          · intro w hSw
            try dsimp only at hSw
            go_simp
            try with_reducible rfl
          try simp only [Act.put, List.setIfInBounds_toArray, List.set_cons_zero, List.set_cons_succ]
          refine wpAnyH_take (i := 8) (oi := { dst := some 25, op := Op.binOp BinOp.neq 3 (Operand.tmp 20) (Operand.tmp 24) 3, type := 4, pos := _, after := #[{ on := 3, ground := Ground.data }, { on := 7, ground := Ground.data }], guard := none }) (v := ?_) rfl (by kernel_rfl) (by kernel_rfl) (by kernel_rfl) (fun _ _ _ h => h) (Or.inl ⟨by rfl, ?_⟩) (by assumption) ?_
          rotate_left
          · intro w hSw
            try dsimp only at hSw
            go_simp
            try with_reducible rfl
          try simp only [Act.put, List.setIfInBounds_toArray, List.set_cons_zero, List.set_cons_succ]
          refine wpAnyH_done (by kernel_rfl) ?_ _
          refine NoPanic.normal ?_
          --END6b
          go_wp2_with fail
          go_ret
          exact ⟨by rw [hd]; rfl, hHeld.2.2⟩
      · obtain rfl : k = m := by omega
        have hd : decide (a = b) = true := by
          rw [decide_eq_true_iff]
          refine List.ext_getElem? fun j => ?_
          by_cases hj : j < k
          · exact HR.out.1 j hj
          · rw [List.getElem?_eq_none (by have := HA.out.1.1; omega), List.getElem?_eq_none (by have := HA.out.1.2; omega)]
        go_wp2_with fail
        go_ret
        exact ⟨by rw [hd]; rfl, HR.out.2⟩
  · have hd : decide (a = b) = false := by simp; intro h; exact hl (by rw [hn, hm, h])
    have hli : ¬ (n : Int) = (m : Int) := by omega
    rw [hd]
    clear hA hB hl hn hm ha
    go_enter Try.func18, Try.ntmps18
    go_wp2_with fail
    go_ret
    exact ⟨rfl, Mem.start w⟩
end Go.Proofs.Ytaeoocpiggebmaa.PtW
