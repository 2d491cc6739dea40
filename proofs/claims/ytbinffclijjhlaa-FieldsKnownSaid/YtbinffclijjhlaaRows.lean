/-
  No cell of these rows narrows 'for every input' (looked for: loops, veiled, ifaces, maps, wideKeys, modest, calm, conditions, laid).
  DERIVED. THE GIVEN ROWS OF THIS SEAT. 6 by the template 'for every input the law returns true; each argument reads behind the call as it read before'; 0 by the template 'total and deterministic' (their statements: YtbinffclijjhlaaTotals.lean).
  GIVEN WITH THE SEED: the statements are not yours to turn. If you find one false, say at which input.
  Laid BY PROGRAM, IN A SANDBOX (cutbox-rows.mjs): the forced cells as the released guide's own fill.sh prints them over the translation f7b1d484f17d00d6… (all of the seat's roots in one cut). By AI agents, Wed Nov 11 2026. No macro, syntax, notation, axiom, sorry.
-/
import Derived.Test.YtbinffclijjhlaaChecked
import GoSem.Claim
import GoSem.ClaimJoined
import GoSem.ClaimMapViews
import Derived.JoinedTies
import Derived.KernelRfl
namespace Go.Proofs.Ytbinffclijjhlaa
/- THE CELL 'sum', in the pinned program and in every row, IS THE sha256 OF THE DUMP (.gsa) THAT YtbinffclijjhlaaProg.lean LOADS. Nothing in Lean hashes anything: it is a label: what it is worth is what the hold of that sum in a sandbox is worth. -/
noncomputable def Try.pinned : Pinned := { name := "ytbinffclijjhlaa", sum := "f7b1d484f17d00d68517c56fe035e33b11d829d392dcdc33acb6101cf69cc434", checked := Try.checked }
namespace Rows
def none {H : Type} : Left H := { results := [], args := [] }

/-- 'starfishlaw02.FieldsPut': WHATEVER THE INPUT: true; the input reads as it did. -/
def fieldsPutSpec : ChangeSpec := { name := "fieldsPut", fn := fun _ => fun
  | [d] => { results := [.lit (.bool true)], args := [d] }
  | _ => none }
def fieldsPutRow : OpenClaim := { program := "ytbinffclijjhlaa", sum := "f7b1d484f17d00d68517c56fe035e33b11d829d392dcdc33acb6101cf69cc434", func := "starfish/starfishlaw02.FieldsPut", spec := "fieldsPut", apart := false }
def FieldsPutSaid : Prop := fieldsPutRow.holds Try.pinned (OpenSpec.ofChange fieldsPutSpec)

/-- ITS FALSE NEIGHBOUR: 'it returns false'. Refute it at one input. -/
def fieldsPutWrong : ChangeSpec := { name := "fieldsPut", fn := fun _ => fun
  | [d] => { results := [.lit (.bool false)], args := [d] }
  | _ => none }
def FieldsPutWrongFalsely : Prop := fieldsPutRow.holds Try.pinned (OpenSpec.ofChange fieldsPutWrong)

/-- 'starfishlaw02.FieldsGet': WHATEVER THE INPUT: true; the input reads as it did. -/
def fieldsGetSpec : ChangeSpec := { name := "fieldsGet", fn := fun _ => fun
  | [d1, d2] => { results := [.lit (.bool true)], args := [d1, d2] }
  | _ => none }
def fieldsGetRow : OpenClaim := { program := "ytbinffclijjhlaa", sum := "f7b1d484f17d00d68517c56fe035e33b11d829d392dcdc33acb6101cf69cc434", func := "starfish/starfishlaw02.FieldsGet", spec := "fieldsGet", apart := false }
def FieldsGetSaid : Prop := fieldsGetRow.holds Try.pinned (OpenSpec.ofChange fieldsGetSpec)

/-- ITS FALSE NEIGHBOUR: 'it returns false'. Refute it at one input. -/
def fieldsGetWrong : ChangeSpec := { name := "fieldsGet", fn := fun _ => fun
  | [d1, d2] => { results := [.lit (.bool false)], args := [d1, d2] }
  | _ => none }
def FieldsGetWrongFalsely : Prop := fieldsGetRow.holds Try.pinned (OpenSpec.ofChange fieldsGetWrong)

/-- 'starfishlaw02.FieldsHalves': WHATEVER THE INPUT: true; the input reads as it did. -/
def fieldsHalvesSpec : ChangeSpec := { name := "fieldsHalves", fn := fun _ => fun
  | [d] => { results := [.lit (.bool true)], args := [d] }
  | _ => none }
def fieldsHalvesRow : OpenClaim := { program := "ytbinffclijjhlaa", sum := "f7b1d484f17d00d68517c56fe035e33b11d829d392dcdc33acb6101cf69cc434", func := "starfish/starfishlaw02.FieldsHalves", spec := "fieldsHalves", apart := false }
def FieldsHalvesSaid : Prop := fieldsHalvesRow.holds Try.pinned (OpenSpec.ofChange fieldsHalvesSpec)

/-- ITS FALSE NEIGHBOUR: 'it returns false'. Refute it at one input. -/
def fieldsHalvesWrong : ChangeSpec := { name := "fieldsHalves", fn := fun _ => fun
  | [d] => { results := [.lit (.bool false)], args := [d] }
  | _ => none }
def FieldsHalvesWrongFalsely : Prop := fieldsHalvesRow.holds Try.pinned (OpenSpec.ofChange fieldsHalvesWrong)

/-- 'starfishlaw02.FieldsCut': WHATEVER THE INPUT: true; the input reads as it did. -/
def fieldsCutSpec : ChangeSpec := { name := "fieldsCut", fn := fun _ => fun
  | [d1, d2] => { results := [.lit (.bool true)], args := [d1, d2] }
  | _ => none }
def fieldsCutRow : OpenClaim := { program := "ytbinffclijjhlaa", sum := "f7b1d484f17d00d68517c56fe035e33b11d829d392dcdc33acb6101cf69cc434", func := "starfish/starfishlaw02.FieldsCut", spec := "fieldsCut", apart := false }
def FieldsCutSaid : Prop := fieldsCutRow.holds Try.pinned (OpenSpec.ofChange fieldsCutSpec)

/-- ITS FALSE NEIGHBOUR: 'it returns false'. Refute it at one input. -/
def fieldsCutWrong : ChangeSpec := { name := "fieldsCut", fn := fun _ => fun
  | [d1, d2] => { results := [.lit (.bool false)], args := [d1, d2] }
  | _ => none }
def FieldsCutWrongFalsely : Prop := fieldsCutRow.holds Try.pinned (OpenSpec.ofChange fieldsCutWrong)

/-- 'starfishlaw02.FieldsBack': WHATEVER THE INPUT: true; the input reads as it did. -/
def fieldsBackSpec : ChangeSpec := { name := "fieldsBack", fn := fun _ => fun
  | [d1, d2] => { results := [.lit (.bool true)], args := [d1, d2] }
  | _ => none }
def fieldsBackRow : OpenClaim := { program := "ytbinffclijjhlaa", sum := "f7b1d484f17d00d68517c56fe035e33b11d829d392dcdc33acb6101cf69cc434", func := "starfish/starfishlaw02.FieldsBack", spec := "fieldsBack", apart := false }
def FieldsBackSaid : Prop := fieldsBackRow.holds Try.pinned (OpenSpec.ofChange fieldsBackSpec)

/-- ITS FALSE NEIGHBOUR: 'it returns false'. Refute it at one input. -/
def fieldsBackWrong : ChangeSpec := { name := "fieldsBack", fn := fun _ => fun
  | [d1, d2] => { results := [.lit (.bool false)], args := [d1, d2] }
  | _ => none }
def FieldsBackWrongFalsely : Prop := fieldsBackRow.holds Try.pinned (OpenSpec.ofChange fieldsBackWrong)

/-- 'starfishlaw02.FieldsKnown': WHATEVER THE INPUT: true; the input reads as it did. -/
def fieldsKnownSpec : ChangeSpec := { name := "fieldsKnown", fn := fun _ => fun
  | [] => { results := [.lit (.bool true)], args := [] }
  | _ => none }
def fieldsKnownRow : OpenClaim := { program := "ytbinffclijjhlaa", sum := "f7b1d484f17d00d68517c56fe035e33b11d829d392dcdc33acb6101cf69cc434", func := "starfish/starfishlaw02.FieldsKnown", spec := "fieldsKnown", apart := false }
def FieldsKnownSaid : Prop := fieldsKnownRow.holds Try.pinned (OpenSpec.ofChange fieldsKnownSpec)

/-- ITS FALSE NEIGHBOUR: 'it returns false'. Refute it at one input. -/
def fieldsKnownWrong : ChangeSpec := { name := "fieldsKnown", fn := fun _ => fun
  | [] => { results := [.lit (.bool false)], args := [] }
  | _ => none }
def FieldsKnownWrongFalsely : Prop := fieldsKnownRow.holds Try.pinned (OpenSpec.ofChange fieldsKnownWrong)

/- THE SECOND FORM. 'bulk': how many values and letters a reading holds, each counted each time it is reached (what is shared counts as often as it is met; a slice's spare places count too). A statement '..UptoSaid' is the law's where the arguments, and the package variables that the reading takes, are together of bulk at most 1048576: NARROWER than '..Said'. Prove '..Said' where nothing that the law and all that it calls make is longer than what came in: it says more and counts as full. Else prove '..UptoSaid'. A law counts once. -/
mutual
def uptoBulk {H : Type} : DataW H → Nat
  | .lit (.string bytes) => bytes.length + 1
  | .lit _ => 1
  | .nil => 1
  | .ptr d => uptoBulk d + 1
  | .slice elems spare => uptoBulkAll elems + uptoBulkAll spare + 1
  | .agg parts => uptoBulkAll parts + 1
  | .iface _ d => uptoBulk d + 1
  | .map entries => uptoBulkEntries entries + 1
  | .held _ => 1
def uptoBulkAll {H : Type} : List (DataW H) → Nat
  | [] => 0
  | d :: r => uptoBulk d + uptoBulkAll r
def uptoBulkEntries {H : Type} : List (Lit × DataW H) → Nat
  | [] => 0
  | x :: r => uptoBulkEntry x + uptoBulkEntries r
def uptoBulkEntry {H : Type} : Lit × DataW H → Nat
  | (.string bytes, d) => bytes.length + uptoBulk d + 1
  | (_, d) => uptoBulk d + 1
 end
def uptoSmall : (H : Type) → List (DataW H) → Bool := fun _ ds => decide (uptoBulkAll ds ≤ 1048576)
def OpenSpec.upto (s : _root_.Go.ChangeSpec) : _root_.Go.OpenSpec := { _root_.Go.OpenSpec.ofChange s with cond := some uptoSmall }

/-- 'starfishlaw02.FieldsPut', WHERE WHAT IT READS IS OF BULK AT MOST 1048576: true; the input reads as it did. -/
def fieldsPutUptoRow : OpenClaim := { program := "ytbinffclijjhlaa", sum := "f7b1d484f17d00d68517c56fe035e33b11d829d392dcdc33acb6101cf69cc434", func := "starfish/starfishlaw02.FieldsPut", spec := "fieldsPut", apart := false, narrowed := true }
def FieldsPutUptoSaid : Prop := fieldsPutUptoRow.holds Try.pinned (OpenSpec.upto fieldsPutSpec)

/-- 'starfishlaw02.FieldsGet', WHERE WHAT IT READS IS OF BULK AT MOST 1048576: true; the input reads as it did. -/
def fieldsGetUptoRow : OpenClaim := { program := "ytbinffclijjhlaa", sum := "f7b1d484f17d00d68517c56fe035e33b11d829d392dcdc33acb6101cf69cc434", func := "starfish/starfishlaw02.FieldsGet", spec := "fieldsGet", apart := false, narrowed := true }
def FieldsGetUptoSaid : Prop := fieldsGetUptoRow.holds Try.pinned (OpenSpec.upto fieldsGetSpec)

/-- 'starfishlaw02.FieldsHalves', WHERE WHAT IT READS IS OF BULK AT MOST 1048576: true; the input reads as it did. -/
def fieldsHalvesUptoRow : OpenClaim := { program := "ytbinffclijjhlaa", sum := "f7b1d484f17d00d68517c56fe035e33b11d829d392dcdc33acb6101cf69cc434", func := "starfish/starfishlaw02.FieldsHalves", spec := "fieldsHalves", apart := false, narrowed := true }
def FieldsHalvesUptoSaid : Prop := fieldsHalvesUptoRow.holds Try.pinned (OpenSpec.upto fieldsHalvesSpec)

/-- 'starfishlaw02.FieldsCut', WHERE WHAT IT READS IS OF BULK AT MOST 1048576: true; the input reads as it did. -/
def fieldsCutUptoRow : OpenClaim := { program := "ytbinffclijjhlaa", sum := "f7b1d484f17d00d68517c56fe035e33b11d829d392dcdc33acb6101cf69cc434", func := "starfish/starfishlaw02.FieldsCut", spec := "fieldsCut", apart := false, narrowed := true }
def FieldsCutUptoSaid : Prop := fieldsCutUptoRow.holds Try.pinned (OpenSpec.upto fieldsCutSpec)

/-- 'starfishlaw02.FieldsBack', WHERE WHAT IT READS IS OF BULK AT MOST 1048576: true; the input reads as it did. -/
def fieldsBackUptoRow : OpenClaim := { program := "ytbinffclijjhlaa", sum := "f7b1d484f17d00d68517c56fe035e33b11d829d392dcdc33acb6101cf69cc434", func := "starfish/starfishlaw02.FieldsBack", spec := "fieldsBack", apart := false, narrowed := true }
def FieldsBackUptoSaid : Prop := fieldsBackUptoRow.holds Try.pinned (OpenSpec.upto fieldsBackSpec)

/-- 'starfishlaw02.FieldsKnown', WHERE WHAT IT READS IS OF BULK AT MOST 1048576: true; the input reads as it did. -/
def fieldsKnownUptoRow : OpenClaim := { program := "ytbinffclijjhlaa", sum := "f7b1d484f17d00d68517c56fe035e33b11d829d392dcdc33acb6101cf69cc434", func := "starfish/starfishlaw02.FieldsKnown", spec := "fieldsKnown", apart := false, narrowed := true }
def FieldsKnownUptoSaid : Prop := fieldsKnownUptoRow.holds Try.pinned (OpenSpec.upto fieldsKnownSpec)

end Rows
end Go.Proofs.Ytbinffclijjhlaa
