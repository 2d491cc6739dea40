/-
  NARROWER THAN 'FOR EVERY INPUT', by the rows' own cells (each row's printed sentence says how): WirePuts: laid · WireGets: laid · WireBack: laid · WireSame: laid · WireLies: laid · WireKnown: laid.
  DERIVED. THE GIVEN ROWS OF THIS SEAT. 6 by the template 'for every input the law returns true; each argument reads behind the call as it read before'; 0 by the template 'total and deterministic' (their statements: YtebdmfmadbikaaaDoorTotals.lean).
  GIVEN WITH THE SEED: the statements are not yours to turn. If you find one false, say at which input.
  Laid BY PROGRAM, IN A SANDBOX (cutbox-rows.mjs): the forced cells as the released guide's own fill.sh prints them over the translation 8d2f139bfbf9037f… (all of the seat's roots in one cut). By AI agents, Wed Nov 11 2026. No macro, syntax, notation, axiom, sorry.
-/
import Derived.Test.YtebdmfmadbikaaaDoorChecked
import GoSem.Claim
import GoSem.ClaimJoined
import GoSem.ClaimMapViews
import Derived.JoinedTies
import Derived.KernelRfl
namespace Go.Proofs.YtebdmfmadbikaaaDoor
/- THE CELL 'sum', in the pinned program and in every row, IS THE sha256 OF THE DUMP (.gsa) THAT YtebdmfmadbikaaaDoorProg.lean LOADS. Nothing in Lean hashes anything: it is a label: what it is worth is what the hold of that sum in a sandbox is worth. -/
noncomputable def Tryd.pinned : Pinned := { name := "ytebdmfmadbikaaadoor", sum := "8d2f139bfbf9037fd5c42f4f6f93739afd057eea630a4bbd720ad00a4b1413ac", checked := Tryd.checked }
namespace Rows
def none {H : Type} : Left H := { results := [], args := [] }

/- WHAT THE LISTED PACKAGE-LEVEL VARIABLES READ AS WHEN THE CALL BEGINS. Each datum BY PROGRAM (the guide's laid-datum.mjs) off the statement by which the dump's own 'gosem.cut.vars' lays the variable. In a bare row this is a premise. The card (YtebdmfmadbikaaaDoorCards.lean) ties it to the program's text. -/
def laid_starfish_wire_has {H : Type} : DataW H := .agg [.lit (.int .u16 0), .lit (.int .u16 2067), .lit (.int .u16 2051), .lit (.int .u16 2051), .lit (.int .u16 2053), .lit (.int .u16 2053), .lit (.int .u16 2081), .lit (.int .u16 3078), .lit (.int .u16 2054), .lit (.int .u16 3078), .lit (.int .u16 2054), .lit (.int .u16 2048), .lit (.int .u16 2312), .lit (.int .u16 2062), .lit (.int .u16 2062), .lit (.int .u16 2702), .lit (.int .u16 2056), .lit (.int .u16 2054), .lit (.int .u16 2566), .lit (.int .u16 2118), .lit (.int .u16 3142)]

/-- 'starfishlaw17.WirePuts': WHATEVER THE INPUT: true; the input reads as it did. -/
def wirePutsSpec : ChangeSpec := { name := "wirePuts", fn := fun _ => fun
  | [d] => { results := [.lit (.bool true)], args := [d] }
  | _ => none }
def wirePutsRow : OpenClaim := { program := "ytebdmfmadbikaaadoor", sum := "8d2f139bfbf9037fd5c42f4f6f93739afd057eea630a4bbd720ad00a4b1413ac", func := "starfish/starfishlaw17.WirePuts", spec := "wirePuts", unfollowed := true, recurses := true, named := ["starfish/wire.has"], apart := false, laid := [("starfish/wire.has", laid_starfish_wire_has)] }
def WirePutsSaid : Prop := wirePutsRow.holds Tryd.pinned (OpenSpec.ofChange wirePutsSpec)

/-- ITS FALSE NEIGHBOUR: 'it returns false'. Refute it at one input. -/
def wirePutsWrong : ChangeSpec := { name := "wirePuts", fn := fun _ => fun
  | [d] => { results := [.lit (.bool false)], args := [d] }
  | _ => none }
def WirePutsWrongFalsely : Prop := wirePutsRow.holds Tryd.pinned (OpenSpec.ofChange wirePutsWrong)

/-- 'starfishlaw17.WireGets': WHATEVER THE INPUT: true; the input reads as it did. -/
def wireGetsSpec : ChangeSpec := { name := "wireGets", fn := fun _ => fun
  | [d] => { results := [.lit (.bool true)], args := [d] }
  | _ => none }
def wireGetsRow : OpenClaim := { program := "ytebdmfmadbikaaadoor", sum := "8d2f139bfbf9037fd5c42f4f6f93739afd057eea630a4bbd720ad00a4b1413ac", func := "starfish/starfishlaw17.WireGets", spec := "wireGets", unfollowed := true, recurses := true, named := ["starfish/wire.has"], apart := false, laid := [("starfish/wire.has", laid_starfish_wire_has)] }
def WireGetsSaid : Prop := wireGetsRow.holds Tryd.pinned (OpenSpec.ofChange wireGetsSpec)

/-- ITS FALSE NEIGHBOUR: 'it returns false'. Refute it at one input. -/
def wireGetsWrong : ChangeSpec := { name := "wireGets", fn := fun _ => fun
  | [d] => { results := [.lit (.bool false)], args := [d] }
  | _ => none }
def WireGetsWrongFalsely : Prop := wireGetsRow.holds Tryd.pinned (OpenSpec.ofChange wireGetsWrong)

/-- 'starfishlaw17.WireBack': WHATEVER THE INPUT: true; the input reads as it did. -/
def wireBackSpec : ChangeSpec := { name := "wireBack", fn := fun _ => fun
  | [d1, d2, d3] => { results := [.lit (.bool true)], args := [d1, d2, d3] }
  | _ => none }
def wireBackRow : OpenClaim := { program := "ytebdmfmadbikaaadoor", sum := "8d2f139bfbf9037fd5c42f4f6f93739afd057eea630a4bbd720ad00a4b1413ac", func := "starfish/starfishlaw17.WireBack", spec := "wireBack", unfollowed := true, recurses := true, named := ["starfish/wire.has"], apart := false, laid := [("starfish/wire.has", laid_starfish_wire_has)] }
def WireBackSaid : Prop := wireBackRow.holds Tryd.pinned (OpenSpec.ofChange wireBackSpec)

/-- ITS FALSE NEIGHBOUR: 'it returns false'. Refute it at one input. -/
def wireBackWrong : ChangeSpec := { name := "wireBack", fn := fun _ => fun
  | [d1, d2, d3] => { results := [.lit (.bool false)], args := [d1, d2, d3] }
  | _ => none }
def WireBackWrongFalsely : Prop := wireBackRow.holds Tryd.pinned (OpenSpec.ofChange wireBackWrong)

/-- 'starfishlaw17.WireSame': WHATEVER THE INPUT: true; the input reads as it did. -/
def wireSameSpec : ChangeSpec := { name := "wireSame", fn := fun _ => fun
  | [d1, d2] => { results := [.lit (.bool true)], args := [d1, d2] }
  | _ => none }
def wireSameRow : OpenClaim := { program := "ytebdmfmadbikaaadoor", sum := "8d2f139bfbf9037fd5c42f4f6f93739afd057eea630a4bbd720ad00a4b1413ac", func := "starfish/starfishlaw17.WireSame", spec := "wireSame", unfollowed := true, recurses := true, named := ["starfish/wire.has"], apart := false, laid := [("starfish/wire.has", laid_starfish_wire_has)] }
def WireSameSaid : Prop := wireSameRow.holds Tryd.pinned (OpenSpec.ofChange wireSameSpec)

/-- ITS FALSE NEIGHBOUR: 'it returns false'. Refute it at one input. -/
def wireSameWrong : ChangeSpec := { name := "wireSame", fn := fun _ => fun
  | [d1, d2] => { results := [.lit (.bool false)], args := [d1, d2] }
  | _ => none }
def WireSameWrongFalsely : Prop := wireSameRow.holds Tryd.pinned (OpenSpec.ofChange wireSameWrong)

/-- 'starfishlaw17.WireLies': WHATEVER THE INPUT: true; the input reads as it did. -/
def wireLiesSpec : ChangeSpec := { name := "wireLies", fn := fun _ => fun
  | [d1, d2] => { results := [.lit (.bool true)], args := [d1, d2] }
  | _ => none }
def wireLiesRow : OpenClaim := { program := "ytebdmfmadbikaaadoor", sum := "8d2f139bfbf9037fd5c42f4f6f93739afd057eea630a4bbd720ad00a4b1413ac", func := "starfish/starfishlaw17.WireLies", spec := "wireLies", unfollowed := true, recurses := true, named := ["starfish/wire.has"], apart := false, laid := [("starfish/wire.has", laid_starfish_wire_has)] }
def WireLiesSaid : Prop := wireLiesRow.holds Tryd.pinned (OpenSpec.ofChange wireLiesSpec)

/-- ITS FALSE NEIGHBOUR: 'it returns false'. Refute it at one input. -/
def wireLiesWrong : ChangeSpec := { name := "wireLies", fn := fun _ => fun
  | [d1, d2] => { results := [.lit (.bool false)], args := [d1, d2] }
  | _ => none }
def WireLiesWrongFalsely : Prop := wireLiesRow.holds Tryd.pinned (OpenSpec.ofChange wireLiesWrong)

/-- 'starfishlaw17.WireKnown': WHATEVER THE INPUT: true; the input reads as it did. -/
def wireKnownSpec : ChangeSpec := { name := "wireKnown", fn := fun _ => fun
  | [] => { results := [.lit (.bool true)], args := [] }
  | _ => none }
def wireKnownRow : OpenClaim := { program := "ytebdmfmadbikaaadoor", sum := "8d2f139bfbf9037fd5c42f4f6f93739afd057eea630a4bbd720ad00a4b1413ac", func := "starfish/starfishlaw17.WireKnown", spec := "wireKnown", unfollowed := true, recurses := true, named := ["starfish/wire.has"], apart := false, laid := [("starfish/wire.has", laid_starfish_wire_has)] }
def WireKnownSaid : Prop := wireKnownRow.holds Tryd.pinned (OpenSpec.ofChange wireKnownSpec)

/-- ITS FALSE NEIGHBOUR: 'it returns false'. Refute it at one input. -/
def wireKnownWrong : ChangeSpec := { name := "wireKnown", fn := fun _ => fun
  | [] => { results := [.lit (.bool false)], args := [] }
  | _ => none }
def WireKnownWrongFalsely : Prop := wireKnownRow.holds Tryd.pinned (OpenSpec.ofChange wireKnownWrong)

/- THE SECOND FORM. 'bulk': how many values and letters a reading holds, each counted each time it is reached (what is shared counts as often as it is met; a slice's spare places count too). A statement '..UptoSaid' is the law's where the arguments, and the package variables that the reading takes, are together of bulk at most 1048576: NARROWER than '..Said'. Prove '..Said' where nothing that the law and all that it calls make is longer than what came in: it says more and counts as full. Else prove '..UptoSaid'. A law counts once. -/
mutual
def uptoBulk {H : Type} : DataW H → Nat
  | .lit (.string bytes) => bytes.length + 1
  | .lit _ => 1
  | .nil => 1
  | .ptr d => uptoBulk d + 1
  | .slice elems spare => uptoBulkAll elems + uptoBulkAll spare + 1
  | .agg parts => uptoBulkAll parts + 1
  | .iface _ d => uptoBulk d + 1
  | .map entries => uptoBulkEntries entries + 1
  | .held _ => 1
def uptoBulkAll {H : Type} : List (DataW H) → Nat
  | [] => 0
  | d :: r => uptoBulk d + uptoBulkAll r
def uptoBulkEntries {H : Type} : List (Lit × DataW H) → Nat
  | [] => 0
  | x :: r => uptoBulkEntry x + uptoBulkEntries r
def uptoBulkEntry {H : Type} : Lit × DataW H → Nat
  | (.string bytes, d) => bytes.length + uptoBulk d + 1
  | (_, d) => uptoBulk d + 1
 end
def uptoSmall : (H : Type) → List (DataW H) → Bool := fun _ ds => decide (uptoBulkAll ds ≤ 1048576)
def OpenSpec.upto (s : _root_.Go.ChangeSpec) : _root_.Go.OpenSpec := { _root_.Go.OpenSpec.ofChange s with cond := some uptoSmall }

/-- 'starfishlaw17.WirePuts', WHERE WHAT IT READS IS OF BULK AT MOST 1048576: true; the input reads as it did. -/
def wirePutsUptoRow : OpenClaim := { program := "ytebdmfmadbikaaadoor", sum := "8d2f139bfbf9037fd5c42f4f6f93739afd057eea630a4bbd720ad00a4b1413ac", func := "starfish/starfishlaw17.WirePuts", spec := "wirePuts", unfollowed := true, recurses := true, named := ["starfish/wire.has"], apart := false, laid := [("starfish/wire.has", laid_starfish_wire_has)], narrowed := true }
def WirePutsUptoSaid : Prop := wirePutsUptoRow.holds Tryd.pinned (OpenSpec.upto wirePutsSpec)

/-- 'starfishlaw17.WireGets', WHERE WHAT IT READS IS OF BULK AT MOST 1048576: true; the input reads as it did. -/
def wireGetsUptoRow : OpenClaim := { program := "ytebdmfmadbikaaadoor", sum := "8d2f139bfbf9037fd5c42f4f6f93739afd057eea630a4bbd720ad00a4b1413ac", func := "starfish/starfishlaw17.WireGets", spec := "wireGets", unfollowed := true, recurses := true, named := ["starfish/wire.has"], apart := false, laid := [("starfish/wire.has", laid_starfish_wire_has)], narrowed := true }
def WireGetsUptoSaid : Prop := wireGetsUptoRow.holds Tryd.pinned (OpenSpec.upto wireGetsSpec)

/-- 'starfishlaw17.WireBack', WHERE WHAT IT READS IS OF BULK AT MOST 1048576: true; the input reads as it did. -/
def wireBackUptoRow : OpenClaim := { program := "ytebdmfmadbikaaadoor", sum := "8d2f139bfbf9037fd5c42f4f6f93739afd057eea630a4bbd720ad00a4b1413ac", func := "starfish/starfishlaw17.WireBack", spec := "wireBack", unfollowed := true, recurses := true, named := ["starfish/wire.has"], apart := false, laid := [("starfish/wire.has", laid_starfish_wire_has)], narrowed := true }
def WireBackUptoSaid : Prop := wireBackUptoRow.holds Tryd.pinned (OpenSpec.upto wireBackSpec)

/-- 'starfishlaw17.WireSame', WHERE WHAT IT READS IS OF BULK AT MOST 1048576: true; the input reads as it did. -/
def wireSameUptoRow : OpenClaim := { program := "ytebdmfmadbikaaadoor", sum := "8d2f139bfbf9037fd5c42f4f6f93739afd057eea630a4bbd720ad00a4b1413ac", func := "starfish/starfishlaw17.WireSame", spec := "wireSame", unfollowed := true, recurses := true, named := ["starfish/wire.has"], apart := false, laid := [("starfish/wire.has", laid_starfish_wire_has)], narrowed := true }
def WireSameUptoSaid : Prop := wireSameUptoRow.holds Tryd.pinned (OpenSpec.upto wireSameSpec)

/-- 'starfishlaw17.WireLies', WHERE WHAT IT READS IS OF BULK AT MOST 1048576: true; the input reads as it did. -/
def wireLiesUptoRow : OpenClaim := { program := "ytebdmfmadbikaaadoor", sum := "8d2f139bfbf9037fd5c42f4f6f93739afd057eea630a4bbd720ad00a4b1413ac", func := "starfish/starfishlaw17.WireLies", spec := "wireLies", unfollowed := true, recurses := true, named := ["starfish/wire.has"], apart := false, laid := [("starfish/wire.has", laid_starfish_wire_has)], narrowed := true }
def WireLiesUptoSaid : Prop := wireLiesUptoRow.holds Tryd.pinned (OpenSpec.upto wireLiesSpec)

/-- 'starfishlaw17.WireKnown', WHERE WHAT IT READS IS OF BULK AT MOST 1048576: true; the input reads as it did. -/
def wireKnownUptoRow : OpenClaim := { program := "ytebdmfmadbikaaadoor", sum := "8d2f139bfbf9037fd5c42f4f6f93739afd057eea630a4bbd720ad00a4b1413ac", func := "starfish/starfishlaw17.WireKnown", spec := "wireKnown", unfollowed := true, recurses := true, named := ["starfish/wire.has"], apart := false, laid := [("starfish/wire.has", laid_starfish_wire_has)], narrowed := true }
def WireKnownUptoSaid : Prop := wireKnownUptoRow.holds Tryd.pinned (OpenSpec.upto wireKnownSpec)

end Rows
end Go.Proofs.YtebdmfmadbikaaaDoor
