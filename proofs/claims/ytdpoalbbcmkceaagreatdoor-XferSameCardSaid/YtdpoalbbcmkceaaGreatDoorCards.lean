/-
  DERIVED. GIVEN WITH THE SEED: THE CARDS: each row of YtdpoalbbcmkceaaGreatDoorRows.lean that lists a variable, with what it lists TIED to the program's text (the seventh form; the later family's looks); each row that meets fmt, with fmt's text TOLD by the authors' own Lean function (tested against real Go, not proved from fmt's source: count such statements apart). THE CARD IS WHAT COUNTS. Prove the row's statement (the work); the ties are given (YtdpoalbbcmkceaaGreatDoorTie.lean); close each card by the builder's one call (the guide's Derived/Test/ToyasCard.lean, 'card_holds'). Laid BY PROGRAM, IN A SANDBOX (cutbox-door.mjs). By AI agents, Wed Nov 11 2026. No macro, syntax, notation, axiom, sorry.
-/
import Derived.Test.YtdpoalbbcmkceaaGreatDoorRows
import GoSem.ClaimSeven
namespace Go.Proofs.YtdpoalbbcmkceaaGreatDoor
namespace Rows

/-- THE TIED CARD OF 'packhorselaw3.XferSame'. -/
def xferSameCard : Claim7 := { stood := { row := xferSameRow, standIns := [], harness := (true, "fe5f9ed21de88b4d6a4d7e6de9ac01fb10f515d0a39cf54ff815f6d6655936b1"), looks := true }, kinds := [], alts := [], laidByText := true, laidKinds := [.data, .sentinel, .sentinel, .sentinel, .sentinel, .sentinel, .sentinel, .sentinel, .sentinel, .sentinel, .sentinel, .pinned], laidTests := true, laidLooks := .later }
def XferSameCardSaid : Prop := Claim7.holds Tryz.pinned (.plain (OpenSpec.ofChange xferSameSpec)) xferSameCard

/-- THE TIED CARD OF 'packhorselaw3.XferKeeps'. -/
def xferKeepsCard : Claim7 := { stood := { row := xferKeepsRow, standIns := [], harness := (true, "fe5f9ed21de88b4d6a4d7e6de9ac01fb10f515d0a39cf54ff815f6d6655936b1"), looks := true }, kinds := [], alts := [], laidByText := true, laidKinds := [.data, .handle, .sentinel, .sentinel, .sentinel, .sentinel, .sentinel, .sentinel, .sentinel, .sentinel, .sentinel, .sentinel, .sentinel, .sentinel, .pinned], laidTests := true, laidLooks := .later }
def XferKeepsCardSaid : Prop := Claim7.holds Tryz.pinned (.plain (OpenSpec.ofChange xferKeepsSpec)) xferKeepsCard

/-- THE SECOND FORM's CARD OF 'packhorselaw3.XferSame'. -/
def xferSameUptoCard : Claim7 := { stood := { row := xferSameUptoRow, standIns := [], harness := (true, "fe5f9ed21de88b4d6a4d7e6de9ac01fb10f515d0a39cf54ff815f6d6655936b1"), looks := true }, kinds := [], alts := [], laidByText := true, laidKinds := [.data, .sentinel, .sentinel, .sentinel, .sentinel, .sentinel, .sentinel, .sentinel, .sentinel, .sentinel, .sentinel, .pinned], laidTests := true, laidLooks := .later }
def XferSameUptoCardSaid : Prop := Claim7.holds Tryz.pinned (.plain (OpenSpec.upto xferSameSpec)) xferSameUptoCard

/-- THE SECOND FORM's CARD OF 'packhorselaw3.XferKeeps'. -/
def xferKeepsUptoCard : Claim7 := { stood := { row := xferKeepsUptoRow, standIns := [], harness := (true, "fe5f9ed21de88b4d6a4d7e6de9ac01fb10f515d0a39cf54ff815f6d6655936b1"), looks := true }, kinds := [], alts := [], laidByText := true, laidKinds := [.data, .handle, .sentinel, .sentinel, .sentinel, .sentinel, .sentinel, .sentinel, .sentinel, .sentinel, .sentinel, .sentinel, .sentinel, .sentinel, .pinned], laidTests := true, laidLooks := .later }
def XferKeepsUptoCardSaid : Prop := Claim7.holds Tryz.pinned (.plain (OpenSpec.upto xferKeepsSpec)) xferKeepsUptoCard
end Rows
end Go.Proofs.YtdpoalbbcmkceaaGreatDoor
