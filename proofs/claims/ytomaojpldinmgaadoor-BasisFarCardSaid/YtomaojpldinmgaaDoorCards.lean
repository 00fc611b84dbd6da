/-
  DERIVED. GIVEN WITH THE SEED: THE CARDS: each row of YtomaojpldinmgaaDoorRows.lean that lists a variable, with what it lists TIED to the program's text (the seventh form; the later family's looks); each row that meets fmt, with fmt's text TOLD by the authors' own Lean function (tested against real Go, not proved from fmt's source: count such statements apart). THE CARD IS WHAT COUNTS. Prove the row's statement (the work); the ties are given (YtomaojpldinmgaaDoorTie.lean); close each card by the builder's one call (the guide's Derived/Test/ToyasCard.lean, 'card_holds'). Laid BY PROGRAM, IN A SANDBOX (cutbox-door.mjs). By AI agents, Wed Nov 11 2026. No macro, syntax, notation, axiom, sorry.
-/
import Derived.Test.YtomaojpldinmgaaDoorRows
import GoSem.ClaimSeven
namespace Go.Proofs.YtomaojpldinmgaaDoor
namespace Rows

/-- THE TIED CARD OF 'packhorselaw3.TapeActs'. -/
def tapeActsCard : Claim7 := { stood := { row := tapeActsRow, standIns := [], harness := (true, "119824c79199f830ad90f0e12744162e90e1e275d9d4535146d46dc5ea90e276"), looks := true }, kinds := [], alts := [], laidByText := true, laidKinds := [.data, .data, .data, .handle, .sentinel, .sentinel, .sentinel, .sentinel, .sentinel, .sentinel, .sentinel, .sentinel, .sentinel, .sentinel, .sentinel, .sentinel, .sentinel, .sentinel], laidTests := true, laidLooks := .later }
def TapeActsCardSaid : Prop := Claim7.holds Tryd.pinned (.plain (OpenSpec.ofChange tapeActsSpec)) tapeActsCard

/-- THE TIED CARD OF 'packhorselaw3.BasisFar'. -/
def basisFarCard : Claim7 := { stood := { row := basisFarRow, standIns := [], harness := (true, "119824c79199f830ad90f0e12744162e90e1e275d9d4535146d46dc5ea90e276"), looks := true }, kinds := [], alts := [], laidByText := true, laidKinds := [.data, .data, .data, .data, .sentinel, .sentinel, .sentinel, .sentinel, .sentinel, .pinned], laidTests := true, laidLooks := .later }
def BasisFarCardSaid : Prop := Claim7.holds Tryd.pinned (.plain (OpenSpec.ofChange basisFarSpec)) basisFarCard

/-- THE SECOND FORM's CARD OF 'packhorselaw3.TapeActs'. -/
def tapeActsUptoCard : Claim7 := { stood := { row := tapeActsUptoRow, standIns := [], harness := (true, "119824c79199f830ad90f0e12744162e90e1e275d9d4535146d46dc5ea90e276"), looks := true }, kinds := [], alts := [], laidByText := true, laidKinds := [.data, .data, .data, .handle, .sentinel, .sentinel, .sentinel, .sentinel, .sentinel, .sentinel, .sentinel, .sentinel, .sentinel, .sentinel, .sentinel, .sentinel, .sentinel, .sentinel], laidTests := true, laidLooks := .later }
def TapeActsUptoCardSaid : Prop := Claim7.holds Tryd.pinned (.plain (OpenSpec.upto tapeActsSpec)) tapeActsUptoCard

/-- THE SECOND FORM's CARD OF 'packhorselaw3.BasisFar'. -/
def basisFarUptoCard : Claim7 := { stood := { row := basisFarUptoRow, standIns := [], harness := (true, "119824c79199f830ad90f0e12744162e90e1e275d9d4535146d46dc5ea90e276"), looks := true }, kinds := [], alts := [], laidByText := true, laidKinds := [.data, .data, .data, .data, .sentinel, .sentinel, .sentinel, .sentinel, .sentinel, .pinned], laidTests := true, laidLooks := .later }
def BasisFarUptoCardSaid : Prop := Claim7.holds Tryd.pinned (.plain (OpenSpec.upto basisFarSpec)) basisFarUptoCard
end Rows
end Go.Proofs.YtomaojpldinmgaaDoor
