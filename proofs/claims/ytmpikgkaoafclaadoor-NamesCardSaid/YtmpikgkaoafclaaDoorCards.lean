/-
  DERIVED. GIVEN WITH THE SEED: THE CARDS: each row of YtmpikgkaoafclaaDoorRows.lean that lists a variable, with what it lists TIED to the program's text (the seventh form; the later family's looks); each row that meets fmt, with fmt's text TOLD by the authors' own Lean function (tested against real Go, not proved from fmt's source: count such statements apart). THE CARD IS WHAT COUNTS. Prove the row's statement (the work); the ties are given (YtmpikgkaoafclaaDoorTie.lean); close each card by the builder's one call (the guide's Derived/Test/ToyasCard.lean, 'card_holds'). Laid BY PROGRAM, IN A SANDBOX (cutbox-door.mjs). By AI agents, Wed Nov 11 2026. No macro, syntax, notation, axiom, sorry.
-/
import Derived.Test.YtmpikgkaoafclaaDoorRows
import GoSem.ClaimSeven
namespace Go.Proofs.YtmpikgkaoafclaaDoor
namespace Rows

/-- THE TIED CARD OF 'packhorselaw1.NumBack'. -/
def numBackCard : Claim7 := { stood := { row := numBackRow, standIns := [], harness := (true, "6782ac833994b4325e4932c3ec579dec6f26c9b7a6e56d8953663d40392c04ad"), looks := true }, kinds := [], alts := [], laidByText := true, laidKinds := [.sentinel, .sentinel], laidTests := true, laidLooks := .later }
def NumBackCardSaid : Prop := Claim7.holds Tryd.pinned (.plain (OpenSpec.ofChange numBackSpec)) numBackCard

/-- THE TIED CARD OF 'packhorselaw1.NumLists'. -/
def numListsCard : Claim7 := { stood := { row := numListsRow, standIns := [], harness := (true, "6782ac833994b4325e4932c3ec579dec6f26c9b7a6e56d8953663d40392c04ad"), looks := true }, kinds := [], alts := [], laidByText := true, laidKinds := [.sentinel, .sentinel], laidTests := true, laidLooks := .later }
def NumListsCardSaid : Prop := Claim7.holds Tryd.pinned (.plain (OpenSpec.ofChange numListsSpec)) numListsCard

/-- THE TIED CARD OF 'packhorselaw1.SignSizes'. -/
def signSizesCard : Claim7 := { stood := { row := signSizesRow, standIns := [], harness := (true, "6782ac833994b4325e4932c3ec579dec6f26c9b7a6e56d8953663d40392c04ad"), looks := true }, kinds := [], alts := [], laidByText := true, laidKinds := [.sentinel], laidTests := true, laidLooks := .later }
def SignSizesCardSaid : Prop := Claim7.holds Tryd.pinned (.plain (OpenSpec.ofChange signSizesSpec)) signSizesCard

/-- THE TIED CARD OF 'packhorselaw1.PatchParts'. -/
def patchPartsCard : Claim7 := { stood := { row := patchPartsRow, standIns := [], harness := (true, "6782ac833994b4325e4932c3ec579dec6f26c9b7a6e56d8953663d40392c04ad"), looks := true }, kinds := [], alts := [], laidByText := true, laidKinds := [.sentinel, .sentinel, .sentinel, .sentinel, .sentinel], laidTests := true, laidLooks := .later }
def PatchPartsCardSaid : Prop := Claim7.holds Tryd.pinned (.plain (OpenSpec.ofChange patchPartsSpec)) patchPartsCard

/-- THE TIED CARD OF 'packhorselaw1.DeltaSame'. -/
def deltaSameCard : Claim7 := { stood := { row := deltaSameRow, standIns := [], harness := (true, "6782ac833994b4325e4932c3ec579dec6f26c9b7a6e56d8953663d40392c04ad"), looks := true }, kinds := [], alts := [], laidByText := true, laidKinds := [.sentinel, .sentinel], laidTests := true, laidLooks := .later }
def DeltaSameCardSaid : Prop := Claim7.holds Tryd.pinned (.plain (OpenSpec.ofChange deltaSameSpec)) deltaSameCard

/-- THE TIED CARD OF 'packhorselaw1.SignFinds'. -/
def signFindsCard : Claim7 := { stood := { row := signFindsRow, standIns := [], harness := (true, "6782ac833994b4325e4932c3ec579dec6f26c9b7a6e56d8953663d40392c04ad"), looks := true }, kinds := [], alts := [], laidByText := true, laidKinds := [.sentinel, .sentinel, .sentinel], laidTests := true, laidLooks := .later }
def SignFindsCardSaid : Prop := Claim7.holds Tryd.pinned (.plain (OpenSpec.ofChange signFindsSpec)) signFindsCard

/-- THE TIED CARD OF 'packhorselaw1.Names'. -/
def namesCard : Claim7 := { stood := { row := namesRow, standIns := [], harness := (true, "6782ac833994b4325e4932c3ec579dec6f26c9b7a6e56d8953663d40392c04ad"), looks := true }, kinds := [], alts := [], laidByText := true, laidKinds := [.handle, .sentinel, .sentinel, .sentinel, .sentinel, .sentinel, .sentinel, .sentinel, .sentinel, .sentinel, .sentinel, .sentinel, .sentinel], laidTests := true, laidLooks := .later }
def NamesCardSaid : Prop := Claim7.holds Tryd.pinned (.plain (OpenSpec.ofChange namesSpec)) namesCard

/-- THE TIED CARD OF 'packhorselaw1.PatchWhole'. -/
def patchWholeCard : Claim7 := { stood := { row := patchWholeRow, standIns := [], harness := (true, "6782ac833994b4325e4932c3ec579dec6f26c9b7a6e56d8953663d40392c04ad"), looks := true }, kinds := [], alts := [], laidByText := true, laidKinds := [.sentinel, .sentinel, .sentinel, .sentinel, .sentinel, .sentinel], laidTests := true, laidLooks := .later }
def PatchWholeCardSaid : Prop := Claim7.holds Tryd.pinned (.plain (OpenSpec.ofChange patchWholeSpec)) patchWholeCard

/-- THE TIED CARD OF 'packhorselaw1.NumTells'. -/
def numTellsCard : Claim7 := { stood := { row := numTellsRow, standIns := [], harness := (true, "6782ac833994b4325e4932c3ec579dec6f26c9b7a6e56d8953663d40392c04ad"), looks := true }, kinds := [], alts := [], laidByText := true, laidKinds := [.handle, .sentinel, .sentinel, .sentinel, .sentinel, .sentinel, .sentinel, .sentinel, .sentinel, .sentinel, .sentinel, .sentinel, .sentinel], laidTests := true, laidLooks := .later }
def NumTellsCardSaid : Prop := Claim7.holds Tryd.pinned (.plain (OpenSpec.ofChange numTellsSpec)) numTellsCard

/-- THE TIED CARD OF 'packhorselaw1.DeltaBack'. -/
def deltaBackCard : Claim7 := { stood := { row := deltaBackRow, standIns := [], harness := (true, "6782ac833994b4325e4932c3ec579dec6f26c9b7a6e56d8953663d40392c04ad"), looks := true }, kinds := [], alts := [], laidByText := true, laidKinds := [.sentinel, .sentinel, .sentinel, .sentinel, .sentinel], laidTests := true, laidLooks := .later }
def DeltaBackCardSaid : Prop := Claim7.holds Tryd.pinned (.plain (OpenSpec.ofChange deltaBackSpec)) deltaBackCard

/-- THE TIED CARD OF 'packhorselaw1.PatchTells'. -/
def patchTellsCard : Claim7 := { stood := { row := patchTellsRow, standIns := [], harness := (true, "6782ac833994b4325e4932c3ec579dec6f26c9b7a6e56d8953663d40392c04ad"), looks := true }, kinds := [], alts := [], laidByText := true, laidKinds := [.handle, .sentinel, .sentinel, .sentinel, .sentinel, .sentinel, .sentinel, .sentinel, .sentinel, .sentinel, .sentinel, .sentinel, .sentinel], laidTests := true, laidLooks := .later }
def PatchTellsCardSaid : Prop := Claim7.holds Tryd.pinned (.plain (OpenSpec.ofChange patchTellsSpec)) patchTellsCard

/-- THE TIED CARD OF 'packhorselaw1.SignTells'. -/
def signTellsCard : Claim7 := { stood := { row := signTellsRow, standIns := [], harness := (true, "6782ac833994b4325e4932c3ec579dec6f26c9b7a6e56d8953663d40392c04ad"), looks := true }, kinds := [], alts := [], laidByText := true, laidKinds := [.handle, .sentinel, .sentinel, .sentinel, .sentinel, .sentinel, .sentinel, .sentinel, .sentinel, .sentinel, .sentinel, .sentinel, .sentinel], laidTests := true, laidLooks := .later }
def SignTellsCardSaid : Prop := Claim7.holds Tryd.pinned (.plain (OpenSpec.ofChange signTellsSpec)) signTellsCard

/-- THE TIED CARD OF 'packhorselaw1.DeltaTells'. -/
def deltaTellsCard : Claim7 := { stood := { row := deltaTellsRow, standIns := [], harness := (true, "6782ac833994b4325e4932c3ec579dec6f26c9b7a6e56d8953663d40392c04ad"), looks := true }, kinds := [], alts := [], laidByText := true, laidKinds := [.handle, .sentinel, .sentinel, .sentinel, .sentinel, .sentinel, .sentinel, .sentinel, .sentinel, .sentinel, .sentinel, .sentinel, .sentinel], laidTests := true, laidLooks := .later }
def DeltaTellsCardSaid : Prop := Claim7.holds Tryd.pinned (.plain (OpenSpec.ofChange deltaTellsSpec)) deltaTellsCard

/-- THE SECOND FORM's CARD OF 'packhorselaw1.NumBack'. -/
def numBackUptoCard : Claim7 := { stood := { row := numBackUptoRow, standIns := [], harness := (true, "6782ac833994b4325e4932c3ec579dec6f26c9b7a6e56d8953663d40392c04ad"), looks := true }, kinds := [], alts := [], laidByText := true, laidKinds := [.sentinel, .sentinel], laidTests := true, laidLooks := .later }
def NumBackUptoCardSaid : Prop := Claim7.holds Tryd.pinned (.plain (OpenSpec.upto numBackSpec)) numBackUptoCard

/-- THE SECOND FORM's CARD OF 'packhorselaw1.NumLists'. -/
def numListsUptoCard : Claim7 := { stood := { row := numListsUptoRow, standIns := [], harness := (true, "6782ac833994b4325e4932c3ec579dec6f26c9b7a6e56d8953663d40392c04ad"), looks := true }, kinds := [], alts := [], laidByText := true, laidKinds := [.sentinel, .sentinel], laidTests := true, laidLooks := .later }
def NumListsUptoCardSaid : Prop := Claim7.holds Tryd.pinned (.plain (OpenSpec.upto numListsSpec)) numListsUptoCard

/-- THE SECOND FORM's CARD OF 'packhorselaw1.SignSizes'. -/
def signSizesUptoCard : Claim7 := { stood := { row := signSizesUptoRow, standIns := [], harness := (true, "6782ac833994b4325e4932c3ec579dec6f26c9b7a6e56d8953663d40392c04ad"), looks := true }, kinds := [], alts := [], laidByText := true, laidKinds := [.sentinel], laidTests := true, laidLooks := .later }
def SignSizesUptoCardSaid : Prop := Claim7.holds Tryd.pinned (.plain (OpenSpec.upto signSizesSpec)) signSizesUptoCard

/-- THE SECOND FORM's CARD OF 'packhorselaw1.PatchParts'. -/
def patchPartsUptoCard : Claim7 := { stood := { row := patchPartsUptoRow, standIns := [], harness := (true, "6782ac833994b4325e4932c3ec579dec6f26c9b7a6e56d8953663d40392c04ad"), looks := true }, kinds := [], alts := [], laidByText := true, laidKinds := [.sentinel, .sentinel, .sentinel, .sentinel, .sentinel], laidTests := true, laidLooks := .later }
def PatchPartsUptoCardSaid : Prop := Claim7.holds Tryd.pinned (.plain (OpenSpec.upto patchPartsSpec)) patchPartsUptoCard

/-- THE SECOND FORM's CARD OF 'packhorselaw1.DeltaSame'. -/
def deltaSameUptoCard : Claim7 := { stood := { row := deltaSameUptoRow, standIns := [], harness := (true, "6782ac833994b4325e4932c3ec579dec6f26c9b7a6e56d8953663d40392c04ad"), looks := true }, kinds := [], alts := [], laidByText := true, laidKinds := [.sentinel, .sentinel], laidTests := true, laidLooks := .later }
def DeltaSameUptoCardSaid : Prop := Claim7.holds Tryd.pinned (.plain (OpenSpec.upto deltaSameSpec)) deltaSameUptoCard

/-- THE SECOND FORM's CARD OF 'packhorselaw1.SignFinds'. -/
def signFindsUptoCard : Claim7 := { stood := { row := signFindsUptoRow, standIns := [], harness := (true, "6782ac833994b4325e4932c3ec579dec6f26c9b7a6e56d8953663d40392c04ad"), looks := true }, kinds := [], alts := [], laidByText := true, laidKinds := [.sentinel, .sentinel, .sentinel], laidTests := true, laidLooks := .later }
def SignFindsUptoCardSaid : Prop := Claim7.holds Tryd.pinned (.plain (OpenSpec.upto signFindsSpec)) signFindsUptoCard

/-- THE SECOND FORM's CARD OF 'packhorselaw1.Names'. -/
def namesUptoCard : Claim7 := { stood := { row := namesUptoRow, standIns := [], harness := (true, "6782ac833994b4325e4932c3ec579dec6f26c9b7a6e56d8953663d40392c04ad"), looks := true }, kinds := [], alts := [], laidByText := true, laidKinds := [.handle, .sentinel, .sentinel, .sentinel, .sentinel, .sentinel, .sentinel, .sentinel, .sentinel, .sentinel, .sentinel, .sentinel, .sentinel], laidTests := true, laidLooks := .later }
def NamesUptoCardSaid : Prop := Claim7.holds Tryd.pinned (.plain (OpenSpec.upto namesSpec)) namesUptoCard

/-- THE SECOND FORM's CARD OF 'packhorselaw1.PatchWhole'. -/
def patchWholeUptoCard : Claim7 := { stood := { row := patchWholeUptoRow, standIns := [], harness := (true, "6782ac833994b4325e4932c3ec579dec6f26c9b7a6e56d8953663d40392c04ad"), looks := true }, kinds := [], alts := [], laidByText := true, laidKinds := [.sentinel, .sentinel, .sentinel, .sentinel, .sentinel, .sentinel], laidTests := true, laidLooks := .later }
def PatchWholeUptoCardSaid : Prop := Claim7.holds Tryd.pinned (.plain (OpenSpec.upto patchWholeSpec)) patchWholeUptoCard

/-- THE SECOND FORM's CARD OF 'packhorselaw1.NumTells'. -/
def numTellsUptoCard : Claim7 := { stood := { row := numTellsUptoRow, standIns := [], harness := (true, "6782ac833994b4325e4932c3ec579dec6f26c9b7a6e56d8953663d40392c04ad"), looks := true }, kinds := [], alts := [], laidByText := true, laidKinds := [.handle, .sentinel, .sentinel, .sentinel, .sentinel, .sentinel, .sentinel, .sentinel, .sentinel, .sentinel, .sentinel, .sentinel, .sentinel], laidTests := true, laidLooks := .later }
def NumTellsUptoCardSaid : Prop := Claim7.holds Tryd.pinned (.plain (OpenSpec.upto numTellsSpec)) numTellsUptoCard

/-- THE SECOND FORM's CARD OF 'packhorselaw1.DeltaBack'. -/
def deltaBackUptoCard : Claim7 := { stood := { row := deltaBackUptoRow, standIns := [], harness := (true, "6782ac833994b4325e4932c3ec579dec6f26c9b7a6e56d8953663d40392c04ad"), looks := true }, kinds := [], alts := [], laidByText := true, laidKinds := [.sentinel, .sentinel, .sentinel, .sentinel, .sentinel], laidTests := true, laidLooks := .later }
def DeltaBackUptoCardSaid : Prop := Claim7.holds Tryd.pinned (.plain (OpenSpec.upto deltaBackSpec)) deltaBackUptoCard

/-- THE SECOND FORM's CARD OF 'packhorselaw1.PatchTells'. -/
def patchTellsUptoCard : Claim7 := { stood := { row := patchTellsUptoRow, standIns := [], harness := (true, "6782ac833994b4325e4932c3ec579dec6f26c9b7a6e56d8953663d40392c04ad"), looks := true }, kinds := [], alts := [], laidByText := true, laidKinds := [.handle, .sentinel, .sentinel, .sentinel, .sentinel, .sentinel, .sentinel, .sentinel, .sentinel, .sentinel, .sentinel, .sentinel, .sentinel], laidTests := true, laidLooks := .later }
def PatchTellsUptoCardSaid : Prop := Claim7.holds Tryd.pinned (.plain (OpenSpec.upto patchTellsSpec)) patchTellsUptoCard

/-- THE SECOND FORM's CARD OF 'packhorselaw1.SignTells'. -/
def signTellsUptoCard : Claim7 := { stood := { row := signTellsUptoRow, standIns := [], harness := (true, "6782ac833994b4325e4932c3ec579dec6f26c9b7a6e56d8953663d40392c04ad"), looks := true }, kinds := [], alts := [], laidByText := true, laidKinds := [.handle, .sentinel, .sentinel, .sentinel, .sentinel, .sentinel, .sentinel, .sentinel, .sentinel, .sentinel, .sentinel, .sentinel, .sentinel], laidTests := true, laidLooks := .later }
def SignTellsUptoCardSaid : Prop := Claim7.holds Tryd.pinned (.plain (OpenSpec.upto signTellsSpec)) signTellsUptoCard

/-- THE SECOND FORM's CARD OF 'packhorselaw1.DeltaTells'. -/
def deltaTellsUptoCard : Claim7 := { stood := { row := deltaTellsUptoRow, standIns := [], harness := (true, "6782ac833994b4325e4932c3ec579dec6f26c9b7a6e56d8953663d40392c04ad"), looks := true }, kinds := [], alts := [], laidByText := true, laidKinds := [.handle, .sentinel, .sentinel, .sentinel, .sentinel, .sentinel, .sentinel, .sentinel, .sentinel, .sentinel, .sentinel, .sentinel, .sentinel], laidTests := true, laidLooks := .later }
def DeltaTellsUptoCardSaid : Prop := Claim7.holds Tryd.pinned (.plain (OpenSpec.upto deltaTellsSpec)) deltaTellsUptoCard
end Rows
end Go.Proofs.YtmpikgkaoafclaaDoor
