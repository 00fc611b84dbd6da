/-
  DERIVED. GIVEN WITH THE SEED: THE CARDS: each row of YtapdfgnfblkncaaGreatDoorRows.lean that lists a variable, with what it lists TIED to the program's text (the seventh form; the later family's looks); each row that meets fmt, with fmt's text TOLD by the authors' own Lean function (tested against real Go, not proved from fmt's source: count such statements apart). THE CARD IS WHAT COUNTS. Prove the row's statement (the work); the ties are given (YtapdfgnfblkncaaGreatDoorTie.lean); close each card by the builder's one call (the guide's Derived/Test/ToyasCard.lean, 'card_holds'). Laid BY PROGRAM, IN A SANDBOX (cutbox-door.mjs). By AI agents, Wed Nov 11 2026. No macro, syntax, notation, axiom, sorry.
-/
import Derived.Test.YtapdfgnfblkncaaGreatDoorRows
import GoSem.ClaimSeven
namespace Go.Proofs.YtapdfgnfblkncaaGreatDoor
namespace Rows

/-- THE TIED CARD OF 'packhorselaw2.FilesPlan'. -/
def filesPlanCard : Claim7 := { stood := { row := filesPlanRow, standIns := [], harness := (true, "81f68762fb7c496d8394db16cd4142b5d4eca965e28575fc254463c5c9e561d3"), looks := true }, kinds := [], alts := [], laidByText := true, laidKinds := [.data, .handle, .sentinel, .sentinel, .sentinel, .sentinel, .sentinel, .sentinel, .sentinel, .sentinel, .sentinel, .sentinel, .sentinel, .sentinel, .pinned], laidTests := true, laidLooks := .later }
def FilesPlanCardSaid : Prop := Claim7.holds Tryz.pinned (.plain (OpenSpec.ofChange filesPlanSpec)) filesPlanCard

/-- THE SECOND FORM's CARD OF 'packhorselaw2.FilesPlan'. -/
def filesPlanUptoCard : Claim7 := { stood := { row := filesPlanUptoRow, standIns := [], harness := (true, "81f68762fb7c496d8394db16cd4142b5d4eca965e28575fc254463c5c9e561d3"), looks := true }, kinds := [], alts := [], laidByText := true, laidKinds := [.data, .handle, .sentinel, .sentinel, .sentinel, .sentinel, .sentinel, .sentinel, .sentinel, .sentinel, .sentinel, .sentinel, .sentinel, .sentinel, .pinned], laidTests := true, laidLooks := .later }
def FilesPlanUptoCardSaid : Prop := Claim7.holds Tryz.pinned (.plain (OpenSpec.upto filesPlanSpec)) filesPlanUptoCard
end Rows
end Go.Proofs.YtapdfgnfblkncaaGreatDoor
