/- Fields as a law holds them: which there are, and that nothing else that was there has turned. -/
import Derived.Test.YtokpcgfkfmjkkaaFdRef
namespace Go.Proofs.Ytokpcgfkfmjkkaa.FdW
open Go.RowKit Mem Gf
set_option linter.unusedVariables false

/-- Since w0 nothing that was there has turned; the blocks of ps are fields. -/
def St (w0 : World) (ps : List Nat) (w : World) : Prop := (∀ p ∈ ps, w0.heap.size ≤ p ∧ Fld w p) ∧ Below w0.heap.size w0 w
section
variable {w0 w w' : World} {ps : List Nat} {r : Option Nat}
theorem St.start (w : World) : St w [] w := ⟨fun _ h => (by cases h), Below.refl _ _⟩
theorem St.keep (h : St w0 ps w) (hb : Below w.heap.size w w') : St w0 ps w' := ⟨fun p hp => ⟨(h.1 p hp).1, (h.1 p hp).2.keep hb⟩, h.2.trans (hb.mono h.2.size)⟩
theorem St.fl (h : St w0 ps w) (hr : ∀ p, r = some p → p ∈ ps) : FldR w r := fun p hp => (h.1 p (hr p hp)).2
theorem St.fr (h : St w0 ps w) (hr : ∀ p, r = some p → p ∈ ps) (hF : FldR w' r) (hf : Fr (fun k => r = some k) w w') : St w0 ps w' := by
  refine ⟨fun p hp => ⟨(h.1 p hp).1, ?_⟩, h.2.trans (hf.below h.2.size fun k hk => (h.1 k (hr k hk)).1)⟩
  by_cases e : r = some p
  · exact hF p e
  · exact (h.1 p hp).2.fr hf e
/-- What a field's call leaves, of all fields. -/
def AnsS (w0 : World) (ps : List Nat) (v : Value) (e : Ending) (w' : World) : Prop := e = .returned v ∧ St w0 ps w'
theorem St.calls {f : FuncId} {args : Array Value} {v : Value} (h : St w0 ps w) (hr : ∀ p, r = some p → p ∈ ps) (c : Calls Try.prog f args w (Ans r w v)) : Calls Try.prog f args w (AnsS w0 ps v) :=
  c.mono fun e w' ha => ⟨ha.1, h.fr hr ha.2.1 ha.2.2⟩
theorem one_in {p : Nat} {ps : List Nat} (h : p ∈ ps) : ∀ q, some p = some q → q ∈ ps := fun q hq => by injection hq with hq; rw [← hq]; exact h
theorem none_in {ps : List Nat} : ∀ q, none = some q → q ∈ ps := fun q hq => by cases hq
theorem mulS (h : St w0 ps w) (r : Option Nat) (hr : ∀ p, r = some p → p ∈ ps) (x y : Int) (a b : UInt8) (hx : x = (a.toNat : Int)) (hy : y = (b.toNat : Int)) :
    Calls Try.prog 16 #[fptr r, .int .u8 x, .int .u8 y] w (AnsS w0 ps (.int .u8 ((mul a b).toNat : Int))) := h.calls hr (mul_any w r (h.fl hr) x y a b hx hy)
theorem divS (h : St w0 ps w) (r : Option Nat) (hr : ∀ p, r = some p → p ∈ ps) (x y : Int) (a b : UInt8) (hx : x = (a.toNat : Int)) (hy : y = (b.toNat : Int)) :
    Calls Try.prog 9 #[fptr r, .int .u8 x, .int .u8 y] w (AnsS w0 ps (.tuple #[.int .u8 ((div a b).toNat : Int), .bool (nz b)])) := h.calls hr (div_any w r (h.fl hr) x y a b hx hy)
theorem invS (h : St w0 ps w) (r : Option Nat) (hr : ∀ p, r = some p → p ∈ ps) (x : Int) (a : UInt8) (hx : x = (a.toNat : Int)) :
    Calls Try.prog 11 #[fptr r, .int .u8 x] w (AnsS w0 ps (.tuple #[.int .u8 ((inv a).toNat : Int), .bool (nz a)])) := h.calls hr (inv_any w r (h.fl hr) x a hx)
theorem logS (h : St w0 ps w) (r : Option Nat) (hr : ∀ p, r = some p → p ∈ ps) (x : Int) (a : UInt8) (hx : x = (a.toNat : Int)) :
    Calls Try.prog 18 #[fptr r, .int .u8 x] w (AnsS w0 ps (.tuple #[.int .i64 (lg a : Nat), .bool (nz a)])) := h.calls hr (log_any w r (h.fl hr) x a hx)
theorem powS (h : St w0 ps w) (r : Option Nat) (hr : ∀ p, r = some p → p ∈ ps) (x : Int) (a : UInt8) (hx : x = (a.toNat : Int)) (n : Int) :
    Calls Try.prog 21 #[fptr r, .int .u8 x, .int .i64 n] w (AnsS w0 ps (.int .u8 ((pow a n).toNat : Int))) := h.calls hr (pow_any w r (h.fl hr) x a hx n)
theorem expS (h : St w0 ps w) (r : Option Nat) (hr : ∀ p, r = some p → p ∈ ps) (n : Int) :
    Calls Try.prog 22 #[fptr r, .int .i64 n] w (AnsS w0 ps (.int .u8 ((pow 2 n).toNat : Int))) := by rw [pow_two]; exact h.calls hr (exp_any w r (h.fl hr) n)
theorem orderS (h : St w0 ps w) (r : Option Nat) (hr : ∀ p, r = some p → p ∈ ps) (x : Int) (a : UInt8) (hx : x = (a.toNat : Int)) :
    Calls Try.prog 23 #[fptr r, .int .u8 x] w (AnsS w0 ps (.int .i64 (ord a : Nat))) := h.calls hr (order_any w r (h.fl hr) x a hx)
/-- One field more. -/
def NewS (w0 : World) (ps : List Nat) (w : World) (e : Ending) (w' : World) : Prop := e = .returned (.pointer (some ⟨w.heap.size, 0, none⟩)) ∧ St w0 (w.heap.size :: ps) w'
theorem newS (h : St w0 ps w) : Calls Try.prog 8 #[] w (NewS w0 ps w) :=
  (newf_any w).mono fun e w' ⟨he, hF, hb, hs⟩ => ⟨he, fun p hp => by
    rcases List.mem_cons.1 hp with rfl | hp
    · exact ⟨h.2.size, .inl hF⟩
    · exact ⟨(h.1 p hp).1, (h.1 p hp).2.keep hb⟩, h.2.trans (hb.mono h.2.size)⟩
/-- A field that was not made by New. -/
theorem St.fresh (h : St w0 ps w) : St w0 (w.heap.size :: ps) (w.alloc (.cells fzero 38)) :=
  ⟨fun p hp => by
    rcases List.mem_cons.1 hp with rfl | hp
    · exact ⟨h.2.size, .inl (FB.zero w)⟩
    · exact ⟨(h.1 p hp).1, (h.1 p hp).2.keep (nextA (Mem.start w) _)⟩, h.2.trans ((nextA (Mem.start w) _).mono h.2.size)⟩
end
end Go.Proofs.Ytokpcgfkfmjkkaa.FdW
