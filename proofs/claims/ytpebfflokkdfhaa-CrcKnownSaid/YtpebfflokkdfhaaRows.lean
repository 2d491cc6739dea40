/-
  No cell of these rows narrows 'for every input' (looked for: loops, veiled, ifaces, maps, wideKeys, modest, calm, conditions, laid).
  DERIVED. THE GIVEN ROWS OF THIS SEAT. 7 by the template 'for every input the law returns true; each argument reads behind the call as it read before'; 0 by the template 'total and deterministic' (their statements: YtpebfflokkdfhaaTotals.lean).
  GIVEN WITH THE SEED: the statements are not yours to turn. If you find one false, say at which input.
  Laid BY PROGRAM, IN A SANDBOX (cutbox-rows.mjs): the forced cells as the released guide's own fill.sh prints them over the translation c56f91240dd12272… (all of the seat's roots in one cut). By AI agents, Wed Nov 11 2026. No macro, syntax, notation, axiom, sorry.
-/
import Derived.Test.YtpebfflokkdfhaaChecked
import GoSem.Claim
import GoSem.ClaimJoined
import GoSem.ClaimMapViews
import Derived.JoinedTies
import Derived.KernelRfl
namespace Go.Proofs.Ytpebfflokkdfhaa
/- THE CELL 'sum', in the pinned program and in every row, IS THE sha256 OF THE DUMP (.gsa) THAT YtpebfflokkdfhaaProg.lean LOADS. Nothing in Lean hashes anything: it is a label: what it is worth is what the hold of that sum in a sandbox is worth. -/
noncomputable def Try.pinned : Pinned := { name := "ytpebfflokkdfhaa", sum := "c56f91240dd122729c38928e0ab317e7a3b2445bd2b39013c08fc7447b02aaea", checked := Try.checked }
namespace Rows
def none {H : Type} : Left H := { results := [], args := [] }

/-- 'starfishlaw01.CrcLeft': WHATEVER THE INPUT: true; the input reads as it did. -/
def crcLeftSpec : ChangeSpec := { name := "crcLeft", fn := fun _ => fun
  | [d1, d2] => { results := [.lit (.bool true)], args := [d1, d2] }
  | _ => none }
def crcLeftRow : OpenClaim := { program := "ytpebfflokkdfhaa", sum := "c56f91240dd122729c38928e0ab317e7a3b2445bd2b39013c08fc7447b02aaea", func := "starfish/starfishlaw01.CrcLeft", spec := "crcLeft", apart := false }
def CrcLeftSaid : Prop := crcLeftRow.holds Try.pinned (OpenSpec.ofChange crcLeftSpec)

/-- ITS FALSE NEIGHBOUR: 'it returns false'. Refute it at one input. -/
def crcLeftWrong : ChangeSpec := { name := "crcLeft", fn := fun _ => fun
  | [d1, d2] => { results := [.lit (.bool false)], args := [d1, d2] }
  | _ => none }
def CrcLeftWrongFalsely : Prop := crcLeftRow.holds Try.pinned (OpenSpec.ofChange crcLeftWrong)

/-- 'starfishlaw01.CrcWhole': WHATEVER THE INPUT: true; the input reads as it did. -/
def crcWholeSpec : ChangeSpec := { name := "crcWhole", fn := fun _ => fun
  | [d] => { results := [.lit (.bool true)], args := [d] }
  | _ => none }
def crcWholeRow : OpenClaim := { program := "ytpebfflokkdfhaa", sum := "c56f91240dd122729c38928e0ab317e7a3b2445bd2b39013c08fc7447b02aaea", func := "starfish/starfishlaw01.CrcWhole", spec := "crcWhole", apart := false }
def CrcWholeSaid : Prop := crcWholeRow.holds Try.pinned (OpenSpec.ofChange crcWholeSpec)

/-- ITS FALSE NEIGHBOUR: 'it returns false'. Refute it at one input. -/
def crcWholeWrong : ChangeSpec := { name := "crcWhole", fn := fun _ => fun
  | [d] => { results := [.lit (.bool false)], args := [d] }
  | _ => none }
def CrcWholeWrongFalsely : Prop := crcWholeRow.holds Try.pinned (OpenSpec.ofChange crcWholeWrong)

/-- 'starfishlaw01.CrcBehind': WHATEVER THE INPUT: true; the input reads as it did. -/
def crcBehindSpec : ChangeSpec := { name := "crcBehind", fn := fun _ => fun
  | [d1, d2] => { results := [.lit (.bool true)], args := [d1, d2] }
  | _ => none }
def crcBehindRow : OpenClaim := { program := "ytpebfflokkdfhaa", sum := "c56f91240dd122729c38928e0ab317e7a3b2445bd2b39013c08fc7447b02aaea", func := "starfish/starfishlaw01.CrcBehind", spec := "crcBehind", apart := false }
def CrcBehindSaid : Prop := crcBehindRow.holds Try.pinned (OpenSpec.ofChange crcBehindSpec)

/-- ITS FALSE NEIGHBOUR: 'it returns false'. Refute it at one input. -/
def crcBehindWrong : ChangeSpec := { name := "crcBehind", fn := fun _ => fun
  | [d1, d2] => { results := [.lit (.bool false)], args := [d1, d2] }
  | _ => none }
def CrcBehindWrongFalsely : Prop := crcBehindRow.holds Try.pinned (OpenSpec.ofChange crcBehindWrong)

/-- 'starfishlaw01.CrcEnds': WHATEVER THE INPUT: true; the input reads as it did. -/
def crcEndsSpec : ChangeSpec := { name := "crcEnds", fn := fun _ => fun
  | [d1, d2, d3] => { results := [.lit (.bool true)], args := [d1, d2, d3] }
  | _ => none }
def crcEndsRow : OpenClaim := { program := "ytpebfflokkdfhaa", sum := "c56f91240dd122729c38928e0ab317e7a3b2445bd2b39013c08fc7447b02aaea", func := "starfish/starfishlaw01.CrcEnds", spec := "crcEnds", apart := false }
def CrcEndsSaid : Prop := crcEndsRow.holds Try.pinned (OpenSpec.ofChange crcEndsSpec)

/-- ITS FALSE NEIGHBOUR: 'it returns false'. Refute it at one input. -/
def crcEndsWrong : ChangeSpec := { name := "crcEnds", fn := fun _ => fun
  | [d1, d2, d3] => { results := [.lit (.bool false)], args := [d1, d2, d3] }
  | _ => none }
def CrcEndsWrongFalsely : Prop := crcEndsRow.holds Try.pinned (OpenSpec.ofChange crcEndsWrong)

/-- 'starfishlaw01.CrcTurned': WHATEVER THE INPUT: true; the input reads as it did. -/
def crcTurnedSpec : ChangeSpec := { name := "crcTurned", fn := fun _ => fun
  | [d1, d2, d3, d4] => { results := [.lit (.bool true)], args := [d1, d2, d3, d4] }
  | _ => none }
def crcTurnedRow : OpenClaim := { program := "ytpebfflokkdfhaa", sum := "c56f91240dd122729c38928e0ab317e7a3b2445bd2b39013c08fc7447b02aaea", func := "starfish/starfishlaw01.CrcTurned", spec := "crcTurned", apart := false }
def CrcTurnedSaid : Prop := crcTurnedRow.holds Try.pinned (OpenSpec.ofChange crcTurnedSpec)

/-- ITS FALSE NEIGHBOUR: 'it returns false'. Refute it at one input. -/
def crcTurnedWrong : ChangeSpec := { name := "crcTurned", fn := fun _ => fun
  | [d1, d2, d3, d4] => { results := [.lit (.bool false)], args := [d1, d2, d3, d4] }
  | _ => none }
def CrcTurnedWrongFalsely : Prop := crcTurnedRow.holds Try.pinned (OpenSpec.ofChange crcTurnedWrong)

/-- 'starfishlaw01.CrcAmid': WHATEVER THE INPUT: true; the input reads as it did. -/
def crcAmidSpec : ChangeSpec := { name := "crcAmid", fn := fun _ => fun
  | [d1, d2, d3, d4] => { results := [.lit (.bool true)], args := [d1, d2, d3, d4] }
  | _ => none }
def crcAmidRow : OpenClaim := { program := "ytpebfflokkdfhaa", sum := "c56f91240dd122729c38928e0ab317e7a3b2445bd2b39013c08fc7447b02aaea", func := "starfish/starfishlaw01.CrcAmid", spec := "crcAmid", apart := false }
def CrcAmidSaid : Prop := crcAmidRow.holds Try.pinned (OpenSpec.ofChange crcAmidSpec)

/-- ITS FALSE NEIGHBOUR: 'it returns false'. Refute it at one input. -/
def crcAmidWrong : ChangeSpec := { name := "crcAmid", fn := fun _ => fun
  | [d1, d2, d3, d4] => { results := [.lit (.bool false)], args := [d1, d2, d3, d4] }
  | _ => none }
def CrcAmidWrongFalsely : Prop := crcAmidRow.holds Try.pinned (OpenSpec.ofChange crcAmidWrong)

/-- 'starfishlaw01.CrcKnown': WHATEVER THE INPUT: true; the input reads as it did. -/
def crcKnownSpec : ChangeSpec := { name := "crcKnown", fn := fun _ => fun
  | [] => { results := [.lit (.bool true)], args := [] }
  | _ => none }
def crcKnownRow : OpenClaim := { program := "ytpebfflokkdfhaa", sum := "c56f91240dd122729c38928e0ab317e7a3b2445bd2b39013c08fc7447b02aaea", func := "starfish/starfishlaw01.CrcKnown", spec := "crcKnown", apart := false }
def CrcKnownSaid : Prop := crcKnownRow.holds Try.pinned (OpenSpec.ofChange crcKnownSpec)

/-- ITS FALSE NEIGHBOUR: 'it returns false'. Refute it at one input. -/
def crcKnownWrong : ChangeSpec := { name := "crcKnown", fn := fun _ => fun
  | [] => { results := [.lit (.bool false)], args := [] }
  | _ => none }
def CrcKnownWrongFalsely : Prop := crcKnownRow.holds Try.pinned (OpenSpec.ofChange crcKnownWrong)

/- THE SECOND FORM. 'bulk': how many values and letters a reading holds, each counted each time it is reached (what is shared counts as often as it is met; a slice's spare places count too). A statement '..UptoSaid' is the law's where the arguments, and the package variables that the reading takes, are together of bulk at most 1048576: NARROWER than '..Said'. Prove '..Said' where nothing that the law and all that it calls make is longer than what came in: it says more and counts as full. Else prove '..UptoSaid'. A law counts once. -/
mutual
def uptoBulk {H : Type} : DataW H → Nat
  | .lit (.string bytes) => bytes.length + 1
  | .lit _ => 1
  | .nil => 1
  | .ptr d => uptoBulk d + 1
  | .slice elems spare => uptoBulkAll elems + uptoBulkAll spare + 1
  | .agg parts => uptoBulkAll parts + 1
  | .iface _ d => uptoBulk d + 1
  | .map entries => uptoBulkEntries entries + 1
  | .held _ => 1
def uptoBulkAll {H : Type} : List (DataW H) → Nat
  | [] => 0
  | d :: r => uptoBulk d + uptoBulkAll r
def uptoBulkEntries {H : Type} : List (Lit × DataW H) → Nat
  | [] => 0
  | x :: r => uptoBulkEntry x + uptoBulkEntries r
def uptoBulkEntry {H : Type} : Lit × DataW H → Nat
  | (.string bytes, d) => bytes.length + uptoBulk d + 1
  | (_, d) => uptoBulk d + 1
 end
def uptoSmall : (H : Type) → List (DataW H) → Bool := fun _ ds => decide (uptoBulkAll ds ≤ 1048576)
def OpenSpec.upto (s : _root_.Go.ChangeSpec) : _root_.Go.OpenSpec := { _root_.Go.OpenSpec.ofChange s with cond := some uptoSmall }

/-- 'starfishlaw01.CrcLeft', WHERE WHAT IT READS IS OF BULK AT MOST 1048576: true; the input reads as it did. -/
def crcLeftUptoRow : OpenClaim := { program := "ytpebfflokkdfhaa", sum := "c56f91240dd122729c38928e0ab317e7a3b2445bd2b39013c08fc7447b02aaea", func := "starfish/starfishlaw01.CrcLeft", spec := "crcLeft", apart := false, narrowed := true }
def CrcLeftUptoSaid : Prop := crcLeftUptoRow.holds Try.pinned (OpenSpec.upto crcLeftSpec)

/-- 'starfishlaw01.CrcWhole', WHERE WHAT IT READS IS OF BULK AT MOST 1048576: true; the input reads as it did. -/
def crcWholeUptoRow : OpenClaim := { program := "ytpebfflokkdfhaa", sum := "c56f91240dd122729c38928e0ab317e7a3b2445bd2b39013c08fc7447b02aaea", func := "starfish/starfishlaw01.CrcWhole", spec := "crcWhole", apart := false, narrowed := true }
def CrcWholeUptoSaid : Prop := crcWholeUptoRow.holds Try.pinned (OpenSpec.upto crcWholeSpec)

/-- 'starfishlaw01.CrcBehind', WHERE WHAT IT READS IS OF BULK AT MOST 1048576: true; the input reads as it did. -/
def crcBehindUptoRow : OpenClaim := { program := "ytpebfflokkdfhaa", sum := "c56f91240dd122729c38928e0ab317e7a3b2445bd2b39013c08fc7447b02aaea", func := "starfish/starfishlaw01.CrcBehind", spec := "crcBehind", apart := false, narrowed := true }
def CrcBehindUptoSaid : Prop := crcBehindUptoRow.holds Try.pinned (OpenSpec.upto crcBehindSpec)

/-- 'starfishlaw01.CrcEnds', WHERE WHAT IT READS IS OF BULK AT MOST 1048576: true; the input reads as it did. -/
def crcEndsUptoRow : OpenClaim := { program := "ytpebfflokkdfhaa", sum := "c56f91240dd122729c38928e0ab317e7a3b2445bd2b39013c08fc7447b02aaea", func := "starfish/starfishlaw01.CrcEnds", spec := "crcEnds", apart := false, narrowed := true }
def CrcEndsUptoSaid : Prop := crcEndsUptoRow.holds Try.pinned (OpenSpec.upto crcEndsSpec)

/-- 'starfishlaw01.CrcTurned', WHERE WHAT IT READS IS OF BULK AT MOST 1048576: true; the input reads as it did. -/
def crcTurnedUptoRow : OpenClaim := { program := "ytpebfflokkdfhaa", sum := "c56f91240dd122729c38928e0ab317e7a3b2445bd2b39013c08fc7447b02aaea", func := "starfish/starfishlaw01.CrcTurned", spec := "crcTurned", apart := false, narrowed := true }
def CrcTurnedUptoSaid : Prop := crcTurnedUptoRow.holds Try.pinned (OpenSpec.upto crcTurnedSpec)

/-- 'starfishlaw01.CrcAmid', WHERE WHAT IT READS IS OF BULK AT MOST 1048576: true; the input reads as it did. -/
def crcAmidUptoRow : OpenClaim := { program := "ytpebfflokkdfhaa", sum := "c56f91240dd122729c38928e0ab317e7a3b2445bd2b39013c08fc7447b02aaea", func := "starfish/starfishlaw01.CrcAmid", spec := "crcAmid", apart := false, narrowed := true }
def CrcAmidUptoSaid : Prop := crcAmidUptoRow.holds Try.pinned (OpenSpec.upto crcAmidSpec)

/-- 'starfishlaw01.CrcKnown', WHERE WHAT IT READS IS OF BULK AT MOST 1048576: true; the input reads as it did. -/
def crcKnownUptoRow : OpenClaim := { program := "ytpebfflokkdfhaa", sum := "c56f91240dd122729c38928e0ab317e7a3b2445bd2b39013c08fc7447b02aaea", func := "starfish/starfishlaw01.CrcKnown", spec := "crcKnown", apart := false, narrowed := true }
def CrcKnownUptoSaid : Prop := crcKnownUptoRow.holds Try.pinned (OpenSpec.upto crcKnownSpec)

end Rows
end Go.Proofs.Ytpebfflokkdfhaa
