/-
  No cell of these rows narrows 'for every input' (looked for: loops, veiled, ifaces, maps, wideKeys, modest, calm, conditions, laid).
  DERIVED. THE GIVEN ROWS OF THIS SEAT. 5 by the template 'for every input the law returns true; each argument reads behind the call as it read before'; 0 by the template 'total and deterministic' (their statements: YtlmcmcafbepjmaaTotals.lean).
  GIVEN WITH THE SEED: the statements are not yours to turn. If you find one false, say at which input.
  Laid BY PROGRAM, IN A SANDBOX (cutbox-rows.mjs): the forced cells as the released guide's own fill.sh prints them over the translation 234f63abb98dba49… (all of the seat's roots in one cut). By AI agents, Wed Nov 11 2026. No macro, syntax, notation, axiom, sorry.
-/
import Derived.Test.YtlmcmcafbepjmaaChecked
import GoSem.Claim
import GoSem.ClaimJoined
import GoSem.ClaimMapViews
import Derived.JoinedTies
import Derived.KernelRfl
namespace Go.Proofs.Ytlmcmcafbepjmaa
/- THE CELL 'sum', in the pinned program and in every row, IS THE sha256 OF THE DUMP (.gsa) THAT YtlmcmcafbepjmaaProg.lean LOADS. Nothing in Lean hashes anything: it is a label: what it is worth is what the hold of that sum in a sandbox is worth. -/
noncomputable def Try.pinned : Pinned := { name := "ytlmcmcafbepjmaa", sum := "234f63abb98dba4943a7c087385191f45ea7bdd63f703ca9704010d4e50ac191", checked := Try.checked }
namespace Rows
def none {H : Type} : Left H := { results := [], args := [] }

/-- 'starfishlaw16.SharePut': WHATEVER THE INPUT: true; the input reads as it did. -/
def sharePutSpec : ChangeSpec := { name := "sharePut", fn := fun _ => fun
  | [d] => { results := [.lit (.bool true)], args := [d] }
  | _ => none }
def sharePutRow : OpenClaim := { program := "ytlmcmcafbepjmaa", sum := "234f63abb98dba4943a7c087385191f45ea7bdd63f703ca9704010d4e50ac191", func := "starfish/starfishlaw16.SharePut", spec := "sharePut", unfollowed := true, recurses := true, apart := false }
def SharePutSaid : Prop := sharePutRow.holds Try.pinned (OpenSpec.ofChange sharePutSpec)

/-- ITS FALSE NEIGHBOUR: 'it returns false'. Refute it at one input. -/
def sharePutWrong : ChangeSpec := { name := "sharePut", fn := fun _ => fun
  | [d] => { results := [.lit (.bool false)], args := [d] }
  | _ => none }
def SharePutWrongFalsely : Prop := sharePutRow.holds Try.pinned (OpenSpec.ofChange sharePutWrong)

/-- 'starfishlaw16.ShareOrder': WHATEVER THE INPUT: true; the input reads as it did. -/
def shareOrderSpec : ChangeSpec := { name := "shareOrder", fn := fun _ => fun
  | [d1, d2, d3] => { results := [.lit (.bool true)], args := [d1, d2, d3] }
  | _ => none }
def shareOrderRow : OpenClaim := { program := "ytlmcmcafbepjmaa", sum := "234f63abb98dba4943a7c087385191f45ea7bdd63f703ca9704010d4e50ac191", func := "starfish/starfishlaw16.ShareOrder", spec := "shareOrder", unfollowed := true, recurses := true, apart := false }
def ShareOrderSaid : Prop := shareOrderRow.holds Try.pinned (OpenSpec.ofChange shareOrderSpec)

/-- ITS FALSE NEIGHBOUR: 'it returns false'. Refute it at one input. -/
def shareOrderWrong : ChangeSpec := { name := "shareOrder", fn := fun _ => fun
  | [d1, d2, d3] => { results := [.lit (.bool false)], args := [d1, d2, d3] }
  | _ => none }
def ShareOrderWrongFalsely : Prop := shareOrderRow.holds Try.pinned (OpenSpec.ofChange shareOrderWrong)

/-- 'starfishlaw16.ShareGet': WHATEVER THE INPUT: true; the input reads as it did. -/
def shareGetSpec : ChangeSpec := { name := "shareGet", fn := fun _ => fun
  | [d] => { results := [.lit (.bool true)], args := [d] }
  | _ => none }
def shareGetRow : OpenClaim := { program := "ytlmcmcafbepjmaa", sum := "234f63abb98dba4943a7c087385191f45ea7bdd63f703ca9704010d4e50ac191", func := "starfish/starfishlaw16.ShareGet", spec := "shareGet", unfollowed := true, recurses := true, apart := false }
def ShareGetSaid : Prop := shareGetRow.holds Try.pinned (OpenSpec.ofChange shareGetSpec)

/-- ITS FALSE NEIGHBOUR: 'it returns false'. Refute it at one input. -/
def shareGetWrong : ChangeSpec := { name := "shareGet", fn := fun _ => fun
  | [d] => { results := [.lit (.bool false)], args := [d] }
  | _ => none }
def ShareGetWrongFalsely : Prop := shareGetRow.holds Try.pinned (OpenSpec.ofChange shareGetWrong)

/-- 'starfishlaw16.ShareBack': WHATEVER THE INPUT: true; the input reads as it did. -/
def shareBackSpec : ChangeSpec := { name := "shareBack", fn := fun _ => fun
  | [d1, d2, d3, d4, d5] => { results := [.lit (.bool true)], args := [d1, d2, d3, d4, d5] }
  | _ => none }
def shareBackRow : OpenClaim := { program := "ytlmcmcafbepjmaa", sum := "234f63abb98dba4943a7c087385191f45ea7bdd63f703ca9704010d4e50ac191", func := "starfish/starfishlaw16.ShareBack", spec := "shareBack", unfollowed := true, recurses := true, apart := false }
def ShareBackSaid : Prop := shareBackRow.holds Try.pinned (OpenSpec.ofChange shareBackSpec)

/-- ITS FALSE NEIGHBOUR: 'it returns false'. Refute it at one input. -/
def shareBackWrong : ChangeSpec := { name := "shareBack", fn := fun _ => fun
  | [d1, d2, d3, d4, d5] => { results := [.lit (.bool false)], args := [d1, d2, d3, d4, d5] }
  | _ => none }
def ShareBackWrongFalsely : Prop := shareBackRow.holds Try.pinned (OpenSpec.ofChange shareBackWrong)

/-- 'starfishlaw16.ShareKnown': WHATEVER THE INPUT: true; the input reads as it did. -/
def shareKnownSpec : ChangeSpec := { name := "shareKnown", fn := fun _ => fun
  | [] => { results := [.lit (.bool true)], args := [] }
  | _ => none }
def shareKnownRow : OpenClaim := { program := "ytlmcmcafbepjmaa", sum := "234f63abb98dba4943a7c087385191f45ea7bdd63f703ca9704010d4e50ac191", func := "starfish/starfishlaw16.ShareKnown", spec := "shareKnown", unfollowed := true, recurses := true, apart := false }
def ShareKnownSaid : Prop := shareKnownRow.holds Try.pinned (OpenSpec.ofChange shareKnownSpec)

/-- ITS FALSE NEIGHBOUR: 'it returns false'. Refute it at one input. -/
def shareKnownWrong : ChangeSpec := { name := "shareKnown", fn := fun _ => fun
  | [] => { results := [.lit (.bool false)], args := [] }
  | _ => none }
def ShareKnownWrongFalsely : Prop := shareKnownRow.holds Try.pinned (OpenSpec.ofChange shareKnownWrong)

/- THE SECOND FORM. 'bulk': how many values and letters a reading holds, each counted each time it is reached (what is shared counts as often as it is met; a slice's spare places count too). A statement '..UptoSaid' is the law's where the arguments, and the package variables that the reading takes, are together of bulk at most 1048576: NARROWER than '..Said'. Prove '..Said' where nothing that the law and all that it calls make is longer than what came in: it says more and counts as full. Else prove '..UptoSaid'. A law counts once. -/
mutual
def uptoBulk {H : Type} : DataW H → Nat
  | .lit (.string bytes) => bytes.length + 1
  | .lit _ => 1
  | .nil => 1
  | .ptr d => uptoBulk d + 1
  | .slice elems spare => uptoBulkAll elems + uptoBulkAll spare + 1
  | .agg parts => uptoBulkAll parts + 1
  | .iface _ d => uptoBulk d + 1
  | .map entries => uptoBulkEntries entries + 1
  | .held _ => 1
def uptoBulkAll {H : Type} : List (DataW H) → Nat
  | [] => 0
  | d :: r => uptoBulk d + uptoBulkAll r
def uptoBulkEntries {H : Type} : List (Lit × DataW H) → Nat
  | [] => 0
  | x :: r => uptoBulkEntry x + uptoBulkEntries r
def uptoBulkEntry {H : Type} : Lit × DataW H → Nat
  | (.string bytes, d) => bytes.length + uptoBulk d + 1
  | (_, d) => uptoBulk d + 1
 end
def uptoSmall : (H : Type) → List (DataW H) → Bool := fun _ ds => decide (uptoBulkAll ds ≤ 1048576)
def OpenSpec.upto (s : _root_.Go.ChangeSpec) : _root_.Go.OpenSpec := { _root_.Go.OpenSpec.ofChange s with cond := some uptoSmall }

/-- 'starfishlaw16.SharePut', WHERE WHAT IT READS IS OF BULK AT MOST 1048576: true; the input reads as it did. -/
def sharePutUptoRow : OpenClaim := { program := "ytlmcmcafbepjmaa", sum := "234f63abb98dba4943a7c087385191f45ea7bdd63f703ca9704010d4e50ac191", func := "starfish/starfishlaw16.SharePut", spec := "sharePut", unfollowed := true, recurses := true, apart := false, narrowed := true }
def SharePutUptoSaid : Prop := sharePutUptoRow.holds Try.pinned (OpenSpec.upto sharePutSpec)

/-- 'starfishlaw16.ShareOrder', WHERE WHAT IT READS IS OF BULK AT MOST 1048576: true; the input reads as it did. -/
def shareOrderUptoRow : OpenClaim := { program := "ytlmcmcafbepjmaa", sum := "234f63abb98dba4943a7c087385191f45ea7bdd63f703ca9704010d4e50ac191", func := "starfish/starfishlaw16.ShareOrder", spec := "shareOrder", unfollowed := true, recurses := true, apart := false, narrowed := true }
def ShareOrderUptoSaid : Prop := shareOrderUptoRow.holds Try.pinned (OpenSpec.upto shareOrderSpec)

/-- 'starfishlaw16.ShareGet', WHERE WHAT IT READS IS OF BULK AT MOST 1048576: true; the input reads as it did. -/
def shareGetUptoRow : OpenClaim := { program := "ytlmcmcafbepjmaa", sum := "234f63abb98dba4943a7c087385191f45ea7bdd63f703ca9704010d4e50ac191", func := "starfish/starfishlaw16.ShareGet", spec := "shareGet", unfollowed := true, recurses := true, apart := false, narrowed := true }
def ShareGetUptoSaid : Prop := shareGetUptoRow.holds Try.pinned (OpenSpec.upto shareGetSpec)

/-- 'starfishlaw16.ShareBack', WHERE WHAT IT READS IS OF BULK AT MOST 1048576: true; the input reads as it did. -/
def shareBackUptoRow : OpenClaim := { program := "ytlmcmcafbepjmaa", sum := "234f63abb98dba4943a7c087385191f45ea7bdd63f703ca9704010d4e50ac191", func := "starfish/starfishlaw16.ShareBack", spec := "shareBack", unfollowed := true, recurses := true, apart := false, narrowed := true }
def ShareBackUptoSaid : Prop := shareBackUptoRow.holds Try.pinned (OpenSpec.upto shareBackSpec)

/-- 'starfishlaw16.ShareKnown', WHERE WHAT IT READS IS OF BULK AT MOST 1048576: true; the input reads as it did. -/
def shareKnownUptoRow : OpenClaim := { program := "ytlmcmcafbepjmaa", sum := "234f63abb98dba4943a7c087385191f45ea7bdd63f703ca9704010d4e50ac191", func := "starfish/starfishlaw16.ShareKnown", spec := "shareKnown", unfollowed := true, recurses := true, apart := false, narrowed := true }
def ShareKnownUptoSaid : Prop := shareKnownUptoRow.holds Try.pinned (OpenSpec.upto shareKnownSpec)

end Rows
end Go.Proofs.Ytlmcmcafbepjmaa
