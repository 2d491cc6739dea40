/- Bytes that lie outside the field's block; more: a row, times a number, added to another one. -/
import Derived.Test.YthdapoipfnnaeaaFdPow
import Derived.Test.YthdapoipfnnaeaaClone
import Derived.Test.YthdapoipfnnaeaaPlC
namespace Go.Proofs.Ythdapoipfnnaeaa.PlW
open Go.RowKit Mem Gf FdW
set_option linter.unusedVariables false

/-- The slice that begins at A has the bytes l; they do not lie in block p. -/
def In (w : World) (p : Nat) (A : Option Addr) (l : List UInt8) : Prop := Bytes w w.heap.size A l ∧ ∀ b o, A = some ⟨b, o, none⟩ → 0 < l.length → b ≠ p
theorem In.nil {w : World} {p : Nat} {A : Option Addr} : In w p A [] := ⟨Bytes.nil, fun _ _ _ h => absurd h (by simp)⟩
theorem In.fr {w w' : World} {p : Nat} {A : Option Addr} {l : List UInt8} {S : Nat → Prop} (h : In w p A l) (hf : Fr S w w') (hS : ∀ b o, A = some ⟨b, o, none⟩ → 0 < l.length → ¬ S b) : In w' p A l := by
  refine ⟨fun hl => ?_, h.2⟩
  obtain ⟨b, off, e, hb, hc⟩ := h.1 hl
  have hl' : 0 < l.length := by simpa using hl
  exact ⟨b, off, e, Nat.lt_of_lt_of_le hb hf.size, fun j v hv => (World.cell?_of_block (hf.block b hb (hS b off e hl'))).trans (hc j v hv)⟩
theorem In.keep {w w' : World} {p : Nat} {A : Option Addr} {l : List UInt8} (h : In w p A l) (hb : Below w.heap.size w w') : In w' p A l := h.fr (Fr.quiet (S := fun _ => False) hb) fun _ _ _ _ h => h
theorem In.field {w w' : World} {p : Nat} {A : Option Addr} {l : List UInt8} (h : In w p A l) (hf : Fr (fun k => k = p) w w') : In w' p A l := h.fr hf h.2
theorem In.own {w : World} {p base c : Nat} {A : Option Addr} {l : List UInt8} (h : Own w base 5 A c (l.map u8v)) (hp : Fld w p) : In w p A l := by
  refine ⟨h.bytes, fun b o e hl hbp => ?_⟩
  subst hbp
  rcases hp with hp | hp <;>
  · obtain ⟨cs, hb, _⟩ := hp
    rcases h.form with ⟨e2, _⟩ | ⟨g, e2, _⟩
    · rw [e] at e2; cases e2
    · rw [e] at e2
      injection e2 with e2
      have e3 := congrArg Addr.block e2
      simp at e3
      exact hb.ne_own h (by decide) g (by rw [e, e2]) e3.symm
end Go.Proofs.Ythdapoipfnnaeaa.PlW
