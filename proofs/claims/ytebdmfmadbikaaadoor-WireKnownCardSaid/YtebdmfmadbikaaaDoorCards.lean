/-
  DERIVED. GIVEN WITH THE SEED: THE CARDS: each row of YtebdmfmadbikaaaDoorRows.lean that lists a variable, with what it lists TIED to the program's text (the seventh form; the later family's looks); each row that meets fmt, with fmt's text TOLD by the authors' own Lean function (tested against real Go, not proved from fmt's source: count such statements apart). THE CARD IS WHAT COUNTS. Prove the row's statement (the work); the ties are given (YtebdmfmadbikaaaDoorTie.lean); close each card by the builder's one call (the guide's Derived/Test/ToyasCard.lean, 'card_holds'). Laid BY PROGRAM, IN A SANDBOX (cutbox-door.mjs). By AI agents, Wed Nov 11 2026. No macro, syntax, notation, axiom, sorry.
-/
import Derived.Test.YtebdmfmadbikaaaDoorRows
import GoSem.ClaimSeven
namespace Go.Proofs.YtebdmfmadbikaaaDoor
namespace Rows

/-- THE TIED CARD OF 'starfishlaw17.WirePuts'. -/
def wirePutsCard : Claim7 := { stood := { row := wirePutsRow, standIns := [], harness := (true, "32600b34a2d601042b001b14756ceee11ad63b91ed9f562ee0bf23b2c2791f2a"), looks := true }, kinds := [], alts := [], laidByText := true, laidKinds := [.data], laidTests := true, laidLooks := .later }
def WirePutsCardSaid : Prop := Claim7.holds Tryd.pinned (.plain (OpenSpec.ofChange wirePutsSpec)) wirePutsCard

/-- THE TIED CARD OF 'starfishlaw17.WireGets'. -/
def wireGetsCard : Claim7 := { stood := { row := wireGetsRow, standIns := [], harness := (true, "32600b34a2d601042b001b14756ceee11ad63b91ed9f562ee0bf23b2c2791f2a"), looks := true }, kinds := [], alts := [], laidByText := true, laidKinds := [.data], laidTests := true, laidLooks := .later }
def WireGetsCardSaid : Prop := Claim7.holds Tryd.pinned (.plain (OpenSpec.ofChange wireGetsSpec)) wireGetsCard

/-- THE TIED CARD OF 'starfishlaw17.WireBack'. -/
def wireBackCard : Claim7 := { stood := { row := wireBackRow, standIns := [], harness := (true, "32600b34a2d601042b001b14756ceee11ad63b91ed9f562ee0bf23b2c2791f2a"), looks := true }, kinds := [], alts := [], laidByText := true, laidKinds := [.data], laidTests := true, laidLooks := .later }
def WireBackCardSaid : Prop := Claim7.holds Tryd.pinned (.plain (OpenSpec.ofChange wireBackSpec)) wireBackCard

/-- THE TIED CARD OF 'starfishlaw17.WireSame'. -/
def wireSameCard : Claim7 := { stood := { row := wireSameRow, standIns := [], harness := (true, "32600b34a2d601042b001b14756ceee11ad63b91ed9f562ee0bf23b2c2791f2a"), looks := true }, kinds := [], alts := [], laidByText := true, laidKinds := [.data], laidTests := true, laidLooks := .later }
def WireSameCardSaid : Prop := Claim7.holds Tryd.pinned (.plain (OpenSpec.ofChange wireSameSpec)) wireSameCard

/-- THE TIED CARD OF 'starfishlaw17.WireLies'. -/
def wireLiesCard : Claim7 := { stood := { row := wireLiesRow, standIns := [], harness := (true, "32600b34a2d601042b001b14756ceee11ad63b91ed9f562ee0bf23b2c2791f2a"), looks := true }, kinds := [], alts := [], laidByText := true, laidKinds := [.data], laidTests := true, laidLooks := .later }
def WireLiesCardSaid : Prop := Claim7.holds Tryd.pinned (.plain (OpenSpec.ofChange wireLiesSpec)) wireLiesCard

/-- THE TIED CARD OF 'starfishlaw17.WireKnown'. -/
def wireKnownCard : Claim7 := { stood := { row := wireKnownRow, standIns := [], harness := (true, "32600b34a2d601042b001b14756ceee11ad63b91ed9f562ee0bf23b2c2791f2a"), looks := true }, kinds := [], alts := [], laidByText := true, laidKinds := [.data], laidTests := true, laidLooks := .later }
def WireKnownCardSaid : Prop := Claim7.holds Tryd.pinned (.plain (OpenSpec.ofChange wireKnownSpec)) wireKnownCard

/-- THE SECOND FORM's CARD OF 'starfishlaw17.WirePuts'. -/
def wirePutsUptoCard : Claim7 := { stood := { row := wirePutsUptoRow, standIns := [], harness := (true, "32600b34a2d601042b001b14756ceee11ad63b91ed9f562ee0bf23b2c2791f2a"), looks := true }, kinds := [], alts := [], laidByText := true, laidKinds := [.data], laidTests := true, laidLooks := .later }
def WirePutsUptoCardSaid : Prop := Claim7.holds Tryd.pinned (.plain (OpenSpec.upto wirePutsSpec)) wirePutsUptoCard

/-- THE SECOND FORM's CARD OF 'starfishlaw17.WireGets'. -/
def wireGetsUptoCard : Claim7 := { stood := { row := wireGetsUptoRow, standIns := [], harness := (true, "32600b34a2d601042b001b14756ceee11ad63b91ed9f562ee0bf23b2c2791f2a"), looks := true }, kinds := [], alts := [], laidByText := true, laidKinds := [.data], laidTests := true, laidLooks := .later }
def WireGetsUptoCardSaid : Prop := Claim7.holds Tryd.pinned (.plain (OpenSpec.upto wireGetsSpec)) wireGetsUptoCard

/-- THE SECOND FORM's CARD OF 'starfishlaw17.WireBack'. -/
def wireBackUptoCard : Claim7 := { stood := { row := wireBackUptoRow, standIns := [], harness := (true, "32600b34a2d601042b001b14756ceee11ad63b91ed9f562ee0bf23b2c2791f2a"), looks := true }, kinds := [], alts := [], laidByText := true, laidKinds := [.data], laidTests := true, laidLooks := .later }
def WireBackUptoCardSaid : Prop := Claim7.holds Tryd.pinned (.plain (OpenSpec.upto wireBackSpec)) wireBackUptoCard

/-- THE SECOND FORM's CARD OF 'starfishlaw17.WireSame'. -/
def wireSameUptoCard : Claim7 := { stood := { row := wireSameUptoRow, standIns := [], harness := (true, "32600b34a2d601042b001b14756ceee11ad63b91ed9f562ee0bf23b2c2791f2a"), looks := true }, kinds := [], alts := [], laidByText := true, laidKinds := [.data], laidTests := true, laidLooks := .later }
def WireSameUptoCardSaid : Prop := Claim7.holds Tryd.pinned (.plain (OpenSpec.upto wireSameSpec)) wireSameUptoCard

/-- THE SECOND FORM's CARD OF 'starfishlaw17.WireLies'. -/
def wireLiesUptoCard : Claim7 := { stood := { row := wireLiesUptoRow, standIns := [], harness := (true, "32600b34a2d601042b001b14756ceee11ad63b91ed9f562ee0bf23b2c2791f2a"), looks := true }, kinds := [], alts := [], laidByText := true, laidKinds := [.data], laidTests := true, laidLooks := .later }
def WireLiesUptoCardSaid : Prop := Claim7.holds Tryd.pinned (.plain (OpenSpec.upto wireLiesSpec)) wireLiesUptoCard

/-- THE SECOND FORM's CARD OF 'starfishlaw17.WireKnown'. -/
def wireKnownUptoCard : Claim7 := { stood := { row := wireKnownUptoRow, standIns := [], harness := (true, "32600b34a2d601042b001b14756ceee11ad63b91ed9f562ee0bf23b2c2791f2a"), looks := true }, kinds := [], alts := [], laidByText := true, laidKinds := [.data], laidTests := true, laidLooks := .later }
def WireKnownUptoCardSaid : Prop := Claim7.holds Tryd.pinned (.plain (OpenSpec.upto wireKnownSpec)) wireKnownUptoCard
end Rows
end Go.Proofs.YtebdmfmadbikaaaDoor
