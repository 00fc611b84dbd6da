/-
  DERIVED. GIVEN WITH THE SEED: THE CARDS: each row of YtkjcclbnbbbfaaaGreatDoorRows.lean that lists a variable, with what it lists TIED to the program's text (the seventh form; the later family's looks); each row that meets fmt, with fmt's text TOLD by the authors' own Lean function (tested against real Go, not proved from fmt's source: count such statements apart). THE CARD IS WHAT COUNTS. Prove the row's statement (the work); the ties are given (YtkjcclbnbbbfaaaGreatDoorTie.lean); close each card by the builder's one call (the guide's Derived/Test/ToyasCard.lean, 'card_holds'). Laid BY PROGRAM, IN A SANDBOX (cutbox-door.mjs). By AI agents, Wed Nov 11 2026. No macro, syntax, notation, axiom, sorry.
-/
import Derived.Test.YtkjcclbnbbbfaaaGreatDoorRows
import GoSem.ClaimSeven
namespace Go.Proofs.YtkjcclbnbbbfaaaGreatDoor
namespace Rows

/-- THE TIED CARD OF 'packhorselaw3.XferSame'. -/
def xferSameCard : Claim7 := { stood := { row := xferSameRow, standIns := [], harness := (true, "278332985826cd50a29a02b44160ca326e2653e1e103098561ae74656172963d"), looks := true }, kinds := [], alts := [], laidByText := true, laidKinds := [.data, .sentinel, .sentinel, .sentinel, .sentinel, .sentinel, .sentinel, .sentinel, .sentinel, .sentinel, .sentinel, .pinned], laidTests := true, laidLooks := .later }
def XferSameCardSaid : Prop := Claim7.holds Tryz.pinned (.plain (OpenSpec.ofChange xferSameSpec)) xferSameCard

/-- THE TIED CARD OF 'packhorselaw3.XferKeeps'. -/
def xferKeepsCard : Claim7 := { stood := { row := xferKeepsRow, standIns := [], harness := (true, "278332985826cd50a29a02b44160ca326e2653e1e103098561ae74656172963d"), looks := true }, kinds := [], alts := [], laidByText := true, laidKinds := [.data, .handle, .sentinel, .sentinel, .sentinel, .sentinel, .sentinel, .sentinel, .sentinel, .sentinel, .sentinel, .sentinel, .sentinel, .sentinel, .pinned], laidTests := true, laidLooks := .later }
def XferKeepsCardSaid : Prop := Claim7.holds Tryz.pinned (.plain (OpenSpec.ofChange xferKeepsSpec)) xferKeepsCard

/-- THE TIED CARD OF 'packhorselaw3.GateStale'. -/
def gateStaleCard : Claim7 := { stood := { row := gateStaleRow, standIns := [], harness := (true, "278332985826cd50a29a02b44160ca326e2653e1e103098561ae74656172963d"), looks := true }, kinds := [], alts := [], laidByText := true, laidKinds := [.data, .data, .data, .data, .handle, .sentinel, .sentinel, .sentinel, .sentinel, .sentinel, .sentinel, .sentinel, .sentinel, .sentinel, .sentinel, .sentinel, .sentinel, .sentinel, .sentinel, .pinned], laidTests := true, laidLooks := .later }
def GateStaleCardSaid : Prop := Claim7.holds Tryz.pinned (.plain (OpenSpec.ofChange gateStaleSpec)) gateStaleCard

/-- THE TIED CARD OF 'packhorselaw3.GateActs'. -/
def gateActsCard : Claim7 := { stood := { row := gateActsRow, standIns := [], harness := (true, "278332985826cd50a29a02b44160ca326e2653e1e103098561ae74656172963d"), looks := true }, kinds := [], alts := [], laidByText := true, laidKinds := [.data, .data, .data, .data, .handle, .sentinel, .sentinel, .sentinel, .sentinel, .sentinel, .sentinel, .sentinel, .sentinel, .sentinel, .sentinel, .sentinel, .sentinel, .sentinel, .sentinel, .pinned], laidTests := true, laidLooks := .later }
def GateActsCardSaid : Prop := Claim7.holds Tryz.pinned (.plain (OpenSpec.ofChange gateActsSpec)) gateActsCard

/-- THE SECOND FORM's CARD OF 'packhorselaw3.XferSame'. -/
def xferSameUptoCard : Claim7 := { stood := { row := xferSameUptoRow, standIns := [], harness := (true, "278332985826cd50a29a02b44160ca326e2653e1e103098561ae74656172963d"), looks := true }, kinds := [], alts := [], laidByText := true, laidKinds := [.data, .sentinel, .sentinel, .sentinel, .sentinel, .sentinel, .sentinel, .sentinel, .sentinel, .sentinel, .sentinel, .pinned], laidTests := true, laidLooks := .later }
def XferSameUptoCardSaid : Prop := Claim7.holds Tryz.pinned (.plain (OpenSpec.upto xferSameSpec)) xferSameUptoCard

/-- THE SECOND FORM's CARD OF 'packhorselaw3.XferKeeps'. -/
def xferKeepsUptoCard : Claim7 := { stood := { row := xferKeepsUptoRow, standIns := [], harness := (true, "278332985826cd50a29a02b44160ca326e2653e1e103098561ae74656172963d"), looks := true }, kinds := [], alts := [], laidByText := true, laidKinds := [.data, .handle, .sentinel, .sentinel, .sentinel, .sentinel, .sentinel, .sentinel, .sentinel, .sentinel, .sentinel, .sentinel, .sentinel, .sentinel, .pinned], laidTests := true, laidLooks := .later }
def XferKeepsUptoCardSaid : Prop := Claim7.holds Tryz.pinned (.plain (OpenSpec.upto xferKeepsSpec)) xferKeepsUptoCard

/-- THE SECOND FORM's CARD OF 'packhorselaw3.GateStale'. -/
def gateStaleUptoCard : Claim7 := { stood := { row := gateStaleUptoRow, standIns := [], harness := (true, "278332985826cd50a29a02b44160ca326e2653e1e103098561ae74656172963d"), looks := true }, kinds := [], alts := [], laidByText := true, laidKinds := [.data, .data, .data, .data, .handle, .sentinel, .sentinel, .sentinel, .sentinel, .sentinel, .sentinel, .sentinel, .sentinel, .sentinel, .sentinel, .sentinel, .sentinel, .sentinel, .sentinel, .pinned], laidTests := true, laidLooks := .later }
def GateStaleUptoCardSaid : Prop := Claim7.holds Tryz.pinned (.plain (OpenSpec.upto gateStaleSpec)) gateStaleUptoCard

/-- THE SECOND FORM's CARD OF 'packhorselaw3.GateActs'. -/
def gateActsUptoCard : Claim7 := { stood := { row := gateActsUptoRow, standIns := [], harness := (true, "278332985826cd50a29a02b44160ca326e2653e1e103098561ae74656172963d"), looks := true }, kinds := [], alts := [], laidByText := true, laidKinds := [.data, .data, .data, .data, .handle, .sentinel, .sentinel, .sentinel, .sentinel, .sentinel, .sentinel, .sentinel, .sentinel, .sentinel, .sentinel, .sentinel, .sentinel, .sentinel, .sentinel, .pinned], laidTests := true, laidLooks := .later }
def GateActsUptoCardSaid : Prop := Claim7.holds Tryz.pinned (.plain (OpenSpec.upto gateActsSpec)) gateActsUptoCard
end Rows
end Go.Proofs.YtkjcclbnbbbfaaaGreatDoor
