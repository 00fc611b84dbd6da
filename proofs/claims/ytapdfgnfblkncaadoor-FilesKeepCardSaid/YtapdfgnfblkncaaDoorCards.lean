/-
  DERIVED. GIVEN WITH THE SEED: THE CARDS: each row of YtapdfgnfblkncaaDoorRows.lean that lists a variable, with what it lists TIED to the program's text (the seventh form; the later family's looks); each row that meets fmt, with fmt's text TOLD by the authors' own Lean function (tested against real Go, not proved from fmt's source: count such statements apart). THE CARD IS WHAT COUNTS. Prove the row's statement (the work); the ties are given (YtapdfgnfblkncaaDoorTie.lean); close each card by the builder's one call (the guide's Derived/Test/ToyasCard.lean, 'card_holds'). Laid BY PROGRAM, IN A SANDBOX (cutbox-door.mjs). By AI agents, Wed Nov 11 2026. No macro, syntax, notation, axiom, sorry.
-/
import Derived.Test.YtapdfgnfblkncaaDoorRows
import GoSem.ClaimSeven
namespace Go.Proofs.YtapdfgnfblkncaaDoor
namespace Rows

/-- THE TIED CARD OF 'packhorselaw2.WindowActs'. -/
def windowActsCard : Claim7 := { stood := { row := windowActsRow, standIns := [], harness := (true, "16bf544454d665419d1c7ac2eefa480b160755dd11e789c334a9f8c078e820ba"), looks := true }, kinds := [], alts := [], laidByText := true, laidKinds := [.handle, .sentinel, .sentinel, .sentinel, .sentinel, .sentinel, .sentinel, .sentinel, .sentinel, .sentinel, .sentinel, .sentinel, .sentinel], laidTests := true, laidLooks := .later }
def WindowActsCardSaid : Prop := Claim7.holds Tryd.pinned (.plain (OpenSpec.ofChange windowActsSpec)) windowActsCard

/-- THE TIED CARD OF 'packhorselaw2.FilesKeep'. -/
def filesKeepCard : Claim7 := { stood := { row := filesKeepRow, standIns := [], harness := (true, "16bf544454d665419d1c7ac2eefa480b160755dd11e789c334a9f8c078e820ba"), looks := true }, kinds := [], alts := [], laidByText := true, laidKinds := [.data, .sentinel, .sentinel, .sentinel, .sentinel, .pinned], laidTests := true, laidLooks := .later }
def FilesKeepCardSaid : Prop := Claim7.holds Tryd.pinned (.plain (OpenSpec.ofChange filesKeepSpec)) filesKeepCard

/-- THE TIED CARD OF 'packhorselaw2.FilesBack'. -/
def filesBackCard : Claim7 := { stood := { row := filesBackRow, standIns := [], harness := (true, "16bf544454d665419d1c7ac2eefa480b160755dd11e789c334a9f8c078e820ba"), looks := true }, kinds := [], alts := [], laidByText := true, laidKinds := [.data, .sentinel, .sentinel, .sentinel, .sentinel, .sentinel, .pinned], laidTests := true, laidLooks := .later }
def FilesBackCardSaid : Prop := Claim7.holds Tryd.pinned (.plain (OpenSpec.ofChange filesBackSpec)) filesBackCard

/-- THE TIED CARD OF 'packhorselaw2.FilesTell'. -/
def filesTellCard : Claim7 := { stood := { row := filesTellRow, standIns := [], harness := (true, "16bf544454d665419d1c7ac2eefa480b160755dd11e789c334a9f8c078e820ba"), looks := true }, kinds := [], alts := [], laidByText := true, laidKinds := [.data, .handle, .sentinel, .sentinel, .sentinel, .sentinel, .sentinel, .sentinel, .sentinel, .sentinel, .sentinel, .sentinel, .sentinel, .sentinel, .pinned], laidTests := true, laidLooks := .later }
def FilesTellCardSaid : Prop := Claim7.holds Tryd.pinned (.plain (OpenSpec.ofChange filesTellSpec)) filesTellCard

/-- THE SECOND FORM's CARD OF 'packhorselaw2.WindowActs'. -/
def windowActsUptoCard : Claim7 := { stood := { row := windowActsUptoRow, standIns := [], harness := (true, "16bf544454d665419d1c7ac2eefa480b160755dd11e789c334a9f8c078e820ba"), looks := true }, kinds := [], alts := [], laidByText := true, laidKinds := [.handle, .sentinel, .sentinel, .sentinel, .sentinel, .sentinel, .sentinel, .sentinel, .sentinel, .sentinel, .sentinel, .sentinel, .sentinel], laidTests := true, laidLooks := .later }
def WindowActsUptoCardSaid : Prop := Claim7.holds Tryd.pinned (.plain (OpenSpec.upto windowActsSpec)) windowActsUptoCard

/-- THE SECOND FORM's CARD OF 'packhorselaw2.FilesKeep'. -/
def filesKeepUptoCard : Claim7 := { stood := { row := filesKeepUptoRow, standIns := [], harness := (true, "16bf544454d665419d1c7ac2eefa480b160755dd11e789c334a9f8c078e820ba"), looks := true }, kinds := [], alts := [], laidByText := true, laidKinds := [.data, .sentinel, .sentinel, .sentinel, .sentinel, .pinned], laidTests := true, laidLooks := .later }
def FilesKeepUptoCardSaid : Prop := Claim7.holds Tryd.pinned (.plain (OpenSpec.upto filesKeepSpec)) filesKeepUptoCard

/-- THE SECOND FORM's CARD OF 'packhorselaw2.FilesBack'. -/
def filesBackUptoCard : Claim7 := { stood := { row := filesBackUptoRow, standIns := [], harness := (true, "16bf544454d665419d1c7ac2eefa480b160755dd11e789c334a9f8c078e820ba"), looks := true }, kinds := [], alts := [], laidByText := true, laidKinds := [.data, .sentinel, .sentinel, .sentinel, .sentinel, .sentinel, .pinned], laidTests := true, laidLooks := .later }
def FilesBackUptoCardSaid : Prop := Claim7.holds Tryd.pinned (.plain (OpenSpec.upto filesBackSpec)) filesBackUptoCard

/-- THE SECOND FORM's CARD OF 'packhorselaw2.FilesTell'. -/
def filesTellUptoCard : Claim7 := { stood := { row := filesTellUptoRow, standIns := [], harness := (true, "16bf544454d665419d1c7ac2eefa480b160755dd11e789c334a9f8c078e820ba"), looks := true }, kinds := [], alts := [], laidByText := true, laidKinds := [.data, .handle, .sentinel, .sentinel, .sentinel, .sentinel, .sentinel, .sentinel, .sentinel, .sentinel, .sentinel, .sentinel, .sentinel, .sentinel, .pinned], laidTests := true, laidLooks := .later }
def FilesTellUptoCardSaid : Prop := Claim7.holds Tryd.pinned (.plain (OpenSpec.upto filesTellSpec)) filesTellUptoCard
end Rows
end Go.Proofs.YtapdfgnfblkncaaDoor
