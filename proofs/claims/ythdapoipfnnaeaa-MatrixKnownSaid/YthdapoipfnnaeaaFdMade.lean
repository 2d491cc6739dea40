/- How the tables are filled, once; made. -/
import Derived.Test.YthdapoipfnnaeaaFdTab
namespace Go.Proofs.Ythdapoipfnnaeaa.FdW
open Go.RowKit Mem Gf
set_option linter.unusedVariables false

theorem xorI (a b : Nat) (ha : a < 2 ^ 62) (hb : b < 2 ^ 62) : bits .xor .i64 (a : Int) (b : Int) = ((a ^^^ b : Nat) : Int) := by
  have hx : a ^^^ b < 2 ^ 62 := Nat.xor_lt_two_pow ha hb
  have h1 : (BitVec.ofInt 64 (a : Int)).toNat = a := by rw [BitVec.ofInt_natCast, BitVec.toNat_ofNat]; exact Nat.mod_eq_of_lt (by omega)
  have h2 : (BitVec.ofInt 64 (b : Int)).toNat = b := by rw [BitVec.ofInt_natCast, BitVec.toNat_ofNat]; exact Nat.mod_eq_of_lt (by omega)
  show IntKind.i64.wrap ((BitVec.ofInt 64 (a : Int) ^^^ BitVec.ofInt 64 (b : Int)).toNat : Int) = _
  rw [BitVec.toNat_xor, h1, h2, IntKind.wrap_i64]
  omega
theorem xor285 (x : Nat) (hx : x < 256) : bits .xor .i64 ((x : Int) * 2) 285 = ((x * 2 ^^^ 285 : Nat) : Int) := xorI (x * 2) 285 (by omega) (by decide)
theorem alive {w : World} {B o : Nat} {v : Value} (h : w.cell? ⟨B, o, none⟩ = some v) : B < w.heap.size := by
  by_cases hB : B < w.heap.size
  · exact hB
  · simp [World.cell?, Array.getElem?_eq_none (Nat.le_of_not_lt hB)] at h

set_option maxRecDepth 100000 in
set_option maxHeartbeats 1000000 in
theorem fill_any (w : World) (p B : Nat) (hne : B ≠ p) (m : Int) (hB : w.cell? ⟨B, 0, none⟩ = some (.pointer (some ⟨p, 0, none⟩))) (h : FB w p (fcell 0 m 0)) :
    Calls Try.prog 68 #[.pointer (some ⟨B, 0, none⟩)] w fun e w' => e = .returned (.tuple #[]) ∧ FB w' p (fcell 0 m 255) ∧ Fr (fun k => k = p) w w' := by
  have HH := Lib.hid (And.intro h (And.intro hB hne))
  clear h hB
  go_enter Try.func68, Try.ntmps68
  go_wp2_with fail
  go_loopw [1, 3] (fun x i wr => ∃ (k : Nat), i = .int .i64 (k : Int) ∧ x = .int .i64 ((pw k).toNat : Int) ∧ k ≤ 255 ∧ FB wr p (fcell 0 m k) ∧ Fr (fun k => k = p) w wr) (fun _ i _ => 255 - (intOf i).toNat)
  case atStart => exact ⟨0, rfl, rfl, Nat.zero_le _, HH.out.1, Fr.refl _ _⟩
  case round =>
    obtain ⟨k, rfl, rfl, hk, hF, hfr⟩ := hrel
    have HF := Lib.hid (And.intro hF hfr)
    have hcB : wr.cell? ⟨B, 0, none⟩ = some (.pointer (some ⟨p, 0, none⟩)) := (World.cell?_of_block (hfr.block B (alive HH.out.2.1) hne)).trans HH.out.2.1
    clear hF hfr
    by_cases hk5 : k < 255
    · have hx1 : (pw k).toNat < 256 := (pw k).toNat_lt
      have hc1 := HF.out.1.cell (j := 3 + k) (by omega)
      have hc2 := HF.out.1.cell (j := 3 + (k + 255)) (by omega)
      have hc3 := HF.out.1.cell (j := 513 + (pw k).toNat) (by omega)
      have hf1 := HF.out.1.frozen (3 + k)
      have hf2 := HF.out.1.frozen (3 + (k + 255))
      have hF2 := Lib.hid (((HF.out.1.set (3 + k) (.int .u8 ((pw k).toNat : Int))).set (3 + (k + 255)) (.int .u8 ((pw k).toNat : Int))).drew)
      have hcB2 : (((wr.setCell ⟨p, 3 + k, none⟩ (.int .u8 ((pw k).toNat : Int))).setCell ⟨p, 3 + (k + 255), none⟩ (.int .u8 ((pw k).toNat : Int))).drew).cell? ⟨B, 0, none⟩ = some (.pointer (some ⟨p, 0, none⟩)) := by
        rw [World.cell?_drew, World.cell?_setCell_other _ _ _ _ (fun h => hne (congrArg Addr.block h).symm), World.cell?_setCell_other _ _ _ _ (fun h => hne (congrArg Addr.block h).symm)]
        exact hcB
      have hfr2 := Lib.hid (((HF.out.2.setCell (p := ⟨p, 3 + k, none⟩) (fun _ => rfl) (.int .u8 ((pw k).toNat : Int))).setCell (p := ⟨p, 3 + (k + 255), none⟩) (fun _ => rfl) (.int .u8 ((pw k).toNat : Int))).drew)
      have HS := Lib.hid (fun j hj => step_cells 0 m hk5 j hj)
      have hn : ((pw (k + 1)).toNat : Int) = if 255 < (pw k).toNat * 2 then (((pw k).toNat * 2 ^^^ 285 : Nat) : Int) else ((pw k).toNat * 2 : Nat) := by rw [pw_next]; split <;> rfl
      have HN := Lib.hid hn
      clear hn
      generalize (pw k).toNat = x at *
      generalize fcell 0 m k (3 + k) = u1 at *
      generalize fcell 0 m k (3 + (k + 255)) = u2 at *
      generalize fcell 0 m k (513 + x) = u3 at *
      go_wp2_with fail
      go_region
      generalize hw2 : ((wr.setCell ⟨p, 3 + k, none⟩ (.int .u8 (x : Int))).setCell ⟨p, 3 + (k + 255), none⟩ (.int .u8 (x : Int))).drew = w2 at *
      have HW2 := Lib.hid hw2
      clear hw2 hc1 hc2 hc3 hf1 hf2 hcB
      have hc3 := hF2.out.cell (j := 513 + x) (by omega)
      have hf3 := hF2.out.frozen (513 + x)
      generalize (if 513 + x = 3 + (k + 255) then Value.int IntKind.u8 (x : Int) else if 513 + x = 3 + k then Value.int IntKind.u8 (x : Int) else fcell 0 m k (513 + x)) = u4 at *
      by_cases hx5 : 255 < x * 2
      · have h255 : (255 : Int) < (x : Int) * 2 := by omega
        rw [if_pos hx5] at HN
        have hxr := xor285 x hx1
        go_wp2_with fail
        go_roundw
        case rel =>
          refine ⟨k + 1, rfl, by rw [HN.out], hk5, ?_, ?_⟩
          · have := HW2.out; subst this
            exact (hF2.out.set (513 + x) (.int .i64 (k : Nat))).congr (HS.out)
          · have := HW2.out; subst this
            exact hfr2.out.setCell (p := ⟨p, 513 + x, none⟩) (fun _ => rfl) _
        case measure => simp [intOf]; omega
      · have h255 : ¬ (255 : Int) < (x : Int) * 2 := by omega
        rw [if_neg hx5] at HN
        go_wp2_with fail
        go_roundw
        case rel =>
          refine ⟨k + 1, rfl, by rw [HN.out]; simp, hk5, ?_, ?_⟩
          · have := HW2.out; subst this
            exact (hF2.out.set (513 + x) (.int .i64 (k : Nat))).congr (HS.out)
          · have := HW2.out; subst this
            exact hfr2.out.setCell (p := ⟨p, 513 + x, none⟩) (fun _ => rfl) _
        case measure => simp [intOf]; omega
    · obtain rfl : k = 255 := by omega
      go_wp2_with fail
      go_end0
      exact ⟨rfl, HF.out⟩

theorem cell0 (d m : Int) (k : Nat) : fcell d m k 0 = .int .u32 d := rfl
theorem cell1 (d m : Int) (k : Nat) : fcell d m k 1 = .int .i32 m := rfl
theorem FB.setm {w : World} {p : Nat} {d m : Int} {k : Nat} (h : FB w p (fcell d m k)) (m' : Int) : FB (w.setCell ⟨p, 1, none⟩ (.int .i32 m')) p (fcell d m' k) :=
  (h.set 1 _).congr fun j hj => by
    by_cases e : j = 1
    · subst e; rfl
    · rw [if_neg e]
      unfold fcell
      by_cases h3 : j < 3
      · rw [if_pos h3, if_pos h3]
        by_cases e0 : j = 0
        · rw [if_pos e0, if_pos e0]
        · rw [if_neg e0, if_neg e0, if_neg e, if_neg e]
      · rw [if_neg h3, if_neg h3]
theorem FB.setd {w : World} {p : Nat} {d m : Int} {k : Nat} (h : FB w p (fcell d m k)) (d' : Int) : FB (w.setCell ⟨p, 0, none⟩ (.int .u32 d')) p (fcell d' m k) :=
  (h.set 0 _).congr fun j hj => by
    by_cases e : j = 0
    · subst e; rfl
    · rw [if_neg e]
      unfold fcell
      by_cases h3 : j < 3
      · rw [if_pos h3, if_pos h3, if_neg e, if_neg e]
      · rw [if_neg h3, if_neg h3]

theorem aload_no (a : Addr) (w : World) (h0 : w.cell? a = some (.int .u32 0)) :
    Calls Try.prog 70 #[.pointer (some a)] w fun e w' => e = .returned (.bool false) ∧ w = w' := by
  have hl := run_call_load (P := Try.prog) Try.func72 (by kernel_rfl) (by kernel_rfl) (by kernel_rfl) .u32 (by kernel_rfl) h0
  go_enter Try.func70, Try.ntmps70
  go_wp2
  go_ret
  exact ⟨rfl, rfl⟩

set_option maxRecDepth 100000 in
set_option maxHeartbeats 1600000 in
/-- (*sync.Once).doSlow, not yet done and the lock free: the tables are filled. -/
theorem slow_any (w : World) (p B : Nat) (hne : B ≠ p) (hB : w.cell? ⟨B, 0, none⟩ = some (.pointer (some ⟨p, 0, none⟩))) (h : FB w p (fcell 0 0 0)) :
    Calls Try.prog 71 #[.pointer (some ⟨p, 0, none⟩), .func (.func 68) #[] #[.pointer (some ⟨B, 0, none⟩)]] w fun e w' => e = .returned (.tuple #[]) ∧ FB w' p (fcell 1 0 255) ∧ Fr (fun k => k = p) w w' := by
  have hc1 := h.cell (j := 1) (by omega)
  have hf1 := h.frozen 1
  rw [cell1] at hc1
  have HF1 := Lib.hid (h.setm 1)
  have hB1 : (w.setCell ⟨p, 1, none⟩ (.int .i32 1)).cell? ⟨B, 0, none⟩ = some (.pointer (some ⟨p, 0, none⟩)) := by
    rw [World.cell?_setCell_other _ _ _ _ (fun h => hne (congrArg Addr.block h).symm)]; exact hB
  have hl0 := HF1.out.cell (j := 0) (by omega)
  rw [cell0] at hl0
  have hnot : ∀ (x : Bool) (w : World), (Op.unary .not (.bool x)).run Try.prog w = .ok (.bool (!x)) w := fun _ _ => rfl
  have HH := Lib.hid (And.intro h hB1)
  clear h hB hB1
  go_enter_defers Try.func71, Try.ntmps71
  go_wp2_with (go_at_call 73; refine (lock_free ⟨p, 1, none⟩ _ hc1 hf1).mono ?_; rintro e w' ⟨rfl, rfl⟩)
  refine (aload_no _ _ hl0).mono ?_
  rintro e w' ⟨rfl, rfl⟩
  go_wp2_with fail
  refine (fill_any _ p B hne 1 HH.out.2 HF1.out).mono ?_
  rintro e w2 ⟨rfl, hF2, hfr2⟩
  have HF2 := Lib.hid (And.intro hF2 hfr2)
  clear hF2 hfr2 hl0 hc1 hf1
  go_wp2_with fail
  -- the door: two deferred calls, the last laid first
  refine leaves_cons (f := 75) (args := #[.pointer (some ⟨p, 0, none⟩), .bool true]) (by simp) (by simp [go_sem]) ?_
  refine (store_deferred ⟨p, 0, none⟩ (.int .u32 0) .returning _ (by rw [HF2.out.1.cell (j := 0) (by omega)]; rfl) (HF2.out.1.frozen 0)).mono ?_
  rintro e u' w'' ⟨rfl, rfl, rfl⟩
  have HF3 := Lib.hid (HF2.out.1.drew.setd 1)
  refine leaves_cons (f := 74) (args := #[.pointer (some ⟨p, 1, none⟩)]) (by simp [settle]) (by simp [go_sem]) ?_
  refine (unlock_deferred ⟨p, 1, none⟩ _ _ (by rw [HF3.out.cell (j := 1) (by omega)]; rfl) (HF3.out.frozen 1)).mono ?_
  rintro e u' w'' ⟨rfl, rfl, rfl⟩
  have hpost : FB ((w2.drew.setCell ⟨p, 0, none⟩ (.int .u32 1)).setCell ⟨p, 1, none⟩ (.int .i32 0)) p (fcell 1 0 255) ∧ Fr (fun k => k = p) w ((w2.drew.setCell ⟨p, 0, none⟩ (.int .u32 1)).setCell ⟨p, 1, none⟩ (.int .i32 0)) :=
    ⟨HF3.out.setm 0, ((((Fr.refl (fun k => k = p) w).setCell (p := ⟨p, 1, none⟩) (fun _ => rfl) _).trans HF2.out.2 fun _ _ h => h).drew.setCell (p := ⟨p, 0, none⟩) (fun _ => rfl) _).setCell (p := ⟨p, 1, none⟩) (fun _ => rfl) _⟩
  simp only [Leaves, settle, results, Try.results71]
  refine ⟨.tuple #[], ?_, rfl, hpost.1, hpost.2⟩
  simp

set_option maxRecDepth 100000 in
set_option maxHeartbeats 1600000 in
/-- (*sync.Once).Do, not yet done. -/
theorem do_first (w : World) (p B : Nat) (hne : B ≠ p) (hB : w.cell? ⟨B, 0, none⟩ = some (.pointer (some ⟨p, 0, none⟩))) (h : FB w p (fcell 0 0 0)) :
    Calls Try.prog 67 #[.pointer (some ⟨p, 0, none⟩), .func (.func 68) #[] #[.pointer (some ⟨B, 0, none⟩)]] w fun e w' => e = .returned (.tuple #[]) ∧ FB w' p (fcell 1 0 255) ∧ Fr (fun k => k = p) w w' := by
  have hl0 := h.cell (j := 0) (by omega)
  rw [cell0] at hl0
  have hnot : ∀ (x : Bool) (w : World), (Op.unary .not (.bool x)).run Try.prog w = .ok (.bool (!x)) w := fun _ _ => rfl
  have HH := Lib.hid (And.intro h hB)
  clear h hB
  go_enter Try.func67, Try.ntmps67
  go_wp2_with fail
  refine (aload_no _ _ hl0).mono ?_
  rintro e w' ⟨rfl, rfl⟩
  go_wp2_with fail
  refine (slow_any _ p B hne HH.out.2 HH.out.1).mono ?_
  rintro e w2 ⟨rfl, hF2, hfr2⟩
  have HF2 := Lib.hid (And.intro hF2 hfr2)
  clear hF2 hfr2 hl0
  go_wp2_with fail
  go_end0
  exact ⟨rfl, HF2.out⟩

/-- A field's pointer, or nil. -/
def fptr (r : Option Nat) : Value := .pointer (r.map fun p => ⟨p, 0, none⟩)
def FldR (w : World) (r : Option Nat) : Prop := ∀ p, r = some p → Fld w p
/-- What made leaves. -/
def MadeOk (w : World) (r : Option Nat) (e : Ending) (w' : World) : Prop :=
  ∃ q, e = .returned (.pointer (some ⟨q, 0, none⟩)) ∧ FB w' q (fcell 1 0 255) ∧ Fr (fun k => r = some k) w w' ∧ ∀ p, r = some p → q = p
theorem neq_ptr (q : Addr) (w : World) : (binOp .eql 24 (.pointer (some q)) (.pointer none)).run Try.prog w = .ok (.bool false) w := by kernel_rfl
theorem neq_nil (w : World) : (binOp .eql 24 (.pointer none) (.pointer none)).run Try.prog w = .ok (.bool true) w := by kernel_rfl
set_option maxRecDepth 100000 in
set_option maxHeartbeats 1600000 in
theorem made_first (w : World) (p : Nat) (h : FB w p (fcell 0 0 0)) : Calls Try.prog 58 #[.pointer (some ⟨p, 0, none⟩)] w (MadeOk w (some p)) := by
  have hmf : ∀ (fn : Fn) (first cap : Array Value) (w : World), (Instr.makeFunc fn first cap).run Try.prog w = .ok (.func fn first cap) w := fun _ _ _ _ => rfl
  have HF := Lib.hid (h.keep (nextA (Mem.start w) (.cells #[.pointer (some ⟨p, 0, none⟩)] 24)))
  have HL := Lib.hid h.lt
  clear h
  go_enter Try.func58, Try.ntmps58
  go_wp2_with fail
  refine (do_first _ p w.heap.size (by have := HL.out; omega) (by simp) HF.out).mono ?_
  rintro e w2 ⟨rfl, hF2, hfr2⟩
  have hc : w2.cell? ⟨w.heap.size, 0, none⟩ = some (.pointer (some ⟨p, 0, none⟩)) := (World.cell?_of_block (hfr2.block w.heap.size (by simp) (by have := HL.out; omega))).trans (by simp)
  have HF2 := Lib.hid (And.intro hF2 hfr2)
  clear hF2 hfr2
  go_wp2_with fail
  go_ret
  refine ⟨p, rfl, HF2.out.1, ?_, fun _ h => by injection h⟩
  refine ((Fr.refl (fun k => some p = some k) w).alloc _).trans HF2.out.2 fun k _ h => by rw [h]
set_option maxRecDepth 100000 in
set_option maxHeartbeats 1600000 in
theorem made_again (w : World) (p : Nat) (h : FB w p (fcell 1 0 255)) : Calls Try.prog 58 #[.pointer (some ⟨p, 0, none⟩)] w (MadeOk w (some p)) := by
  have hmf : ∀ (fn : Fn) (first cap : Array Value) (w : World), (Instr.makeFunc fn first cap).run Try.prog w = .ok (.func fn first cap) w := fun _ _ _ _ => rfl
  have HF := Lib.hid (h.keep (nextA (Mem.start w) (.cells #[.pointer (some ⟨p, 0, none⟩)] 24)))
  have HL := Lib.hid h.lt
  clear h
  go_enter Try.func58, Try.ntmps58
  go_wp2_with fail
  refine (do_done _ _ _ (HF.out.cell (j := 0) (by omega))).mono ?_
  rintro e w2 ⟨rfl, rfl⟩
  go_wp2_with fail
  go_ret
  exact ⟨p, rfl, HF.out, (Fr.refl (fun k => some p = some k) w).alloc _, fun _ h => by injection h⟩
set_option maxRecDepth 100000 in
set_option maxHeartbeats 1600000 in
theorem made_nil (w : World) : Calls Try.prog 58 #[.pointer none] w (MadeOk w none) := by
  have hmf : ∀ (fn : Fn) (first cap : Array Value) (w : World), (Instr.makeFunc fn first cap).run Try.prog w = .ok (.func fn first cap) w := fun _ _ _ _ => rfl
  have hc0 : (w.alloc (.cells #[.pointer none] 24)).cell? ⟨w.heap.size, 0, none⟩ = some (.pointer none) := by simp
  have hf0 : (w.alloc (.cells #[.pointer none] 24)).frozen? ⟨w.heap.size, 0, none⟩ = false := by simp
  have hb0 := nextA (Mem.start w) (.cells #[.pointer none] 24)
  have hs0 : (w.alloc (.cells #[.pointer none] 24)).heap.size = w.heap.size + 1 := by simp
  have HH := Lib.hid (And.intro hc0 (And.intro hf0 (And.intro hb0 hs0)))
  clear hc0 hf0 hb0 hs0
  go_enter Try.func58, Try.ntmps58
  go_wp2_with fail
  generalize w.alloc (.cells #[.pointer none] 24) = w1 at *
  refine (newf_any w1).mono ?_
  rintro e w2 ⟨rfl, hF2, hb2, hs2⟩
  have hlt : w.heap.size < w1.heap.size := by have := HH.out.2.2.2; omega
  have hc2 : w2.cell? ⟨w.heap.size, 0, none⟩ = some (.pointer none) := (hb2.cell (p := ⟨w.heap.size, 0, none⟩) hlt).trans HH.out.1
  have hf2 : w2.frozen? ⟨w.heap.size, 0, none⟩ = false := (hb2.frozen (p := ⟨w.heap.size, 0, none⟩) hlt).trans HH.out.2.1
  have HF3 := Lib.hid (hF2.far (q := ⟨w.heap.size, 0, none⟩) (by simp; omega) (.pointer (some ⟨w1.heap.size, 0, none⟩)))
  have HC3 := Lib.hid (World.cell?_setCell_same w2 ⟨w.heap.size, 0, none⟩ (.pointer (some ⟨w1.heap.size, 0, none⟩)) hc2)
  have HB2 := Lib.hid hb2
  clear hF2 hb2 hs2
  have HLT := Lib.hid hlt
  clear hlt
  go_wp2_with fail
  generalize hw3 : w2.setCell ⟨w.heap.size, 0, none⟩ (.pointer (some ⟨w1.heap.size, 0, none⟩)) = w3 at *
  have HW3 := Lib.hid hw3
  clear hw3 hc2 hf2
  refine (do_first _ w1.heap.size w.heap.size (by have := HLT.out; omega) HC3.out HF3.out).mono ?_
  rintro e w4 ⟨rfl, hF4, hfr4⟩
  have hc : w4.cell? ⟨w.heap.size, 0, none⟩ = some (.pointer (some ⟨w1.heap.size, 0, none⟩)) := (World.cell?_of_block (hfr4.block w.heap.size (alive HC3.out) (by have := HLT.out; omega))).trans HC3.out
  have HF4 := Lib.hid (And.intro hF4 hfr4)
  clear hF4 hfr4
  go_wp2_with fail
  go_ret
  refine ⟨w1.heap.size, rfl, HF4.out.1, ?_, fun _ h => by cases h⟩
  have h1 : Fr (fun k => none = some k) w w1 := Fr.quiet HH.out.2.2.1
  have h2 : Fr (fun k => none = some k) w w2 := h1.trans (Fr.quiet (S := fun _ => False) HB2.out) fun _ _ h => h.elim
  have h3 : Fr (fun k => none = some k) w w3 := by have := HW3.out; subst this; exact h2.setCell (p := ⟨w.heap.size, 0, none⟩) (fun h => by simp at h) _
  exact h3.trans HF4.out.2 fun k hk h => by have := HLT.out; omega
theorem made_any (w : World) (r : Option Nat) (h : FldR w r) : Calls Try.prog 58 #[fptr r] w (MadeOk w r) := by
  cases r with
  | none => exact made_nil w
  | some p => exact (h p rfl).elim (made_first w p) (made_again w p)
theorem MadeOk.fld {w' : World} {r : Option Nat} {q : Nat} (h : FB w' q (fcell 1 0 255)) (hr : ∀ p, r = some p → q = p) : FldR w' r := fun p hp => by
  rw [← hr p hp]; exact .inr h
end Go.Proofs.Ythdapoipfnnaeaa.FdW
