/-
  DERIVED. GIVEN WITH THE SEED: THE CARDS: each row of YtkojhnmchbhbbaaDoorRows.lean that lists a variable, with what it lists TIED to the program's text (the seventh form; the later family's looks); each row that meets fmt, with fmt's text TOLD by the authors' own Lean function (tested against real Go, not proved from fmt's source: count such statements apart). THE CARD IS WHAT COUNTS. Prove the row's statement (the work); the ties are given (YtkojhnmchbhbbaaDoorTie.lean); close each card by the builder's one call (the guide's Derived/Test/ToyasCard.lean, 'card_holds'). Laid BY PROGRAM, IN A SANDBOX (cutbox-door.mjs). By AI agents, Wed Nov 11 2026. No macro, syntax, notation, axiom, sorry.
-/
import Derived.Test.YtkojhnmchbhbbaaDoorRows
import GoSem.ClaimSeven
namespace Go.Proofs.YtkojhnmchbhbbaaDoor
namespace Rows

/-- THE TIED CARD OF 'packhorselaw2.WindowRounds'. -/
def windowRoundsCard : Claim7 := { stood := { row := windowRoundsRow, standIns := [], harness := (true, "7fb8fb2434e9711717afa53c20ee195c1e3dbbed1d19789854272cade6576ab6"), looks := true }, kinds := [], alts := [], laidByText := true, laidKinds := [.sentinel, .sentinel], laidTests := true, laidLooks := .later }
def WindowRoundsCardSaid : Prop := Claim7.holds Tryd.pinned (.plain (OpenSpec.ofChange windowRoundsSpec)) windowRoundsCard

/-- THE TIED CARD OF 'packhorselaw2.WindowOnce'. -/
def windowOnceCard : Claim7 := { stood := { row := windowOnceRow, standIns := [], harness := (true, "7fb8fb2434e9711717afa53c20ee195c1e3dbbed1d19789854272cade6576ab6"), looks := true }, kinds := [], alts := [], laidByText := true, laidKinds := [.sentinel, .sentinel], laidTests := true, laidLooks := .later }
def WindowOnceCardSaid : Prop := Claim7.holds Tryd.pinned (.plain (OpenSpec.ofChange windowOnceSpec)) windowOnceCard

/-- THE TIED CARD OF 'packhorselaw2.FrameApart'. -/
def frameApartCard : Claim7 := { stood := { row := frameApartRow, standIns := [], harness := (true, "7fb8fb2434e9711717afa53c20ee195c1e3dbbed1d19789854272cade6576ab6"), looks := true }, kinds := [], alts := [], laidByText := true, laidKinds := [.sentinel, .sentinel, .sentinel, .sentinel], laidTests := true, laidLooks := .later }
def FrameApartCardSaid : Prop := Claim7.holds Tryd.pinned (.plain (OpenSpec.ofChange frameApartSpec)) frameApartCard

/-- THE TIED CARD OF 'packhorselaw2.WindowActs'. -/
def windowActsCard : Claim7 := { stood := { row := windowActsRow, standIns := [], harness := (true, "7fb8fb2434e9711717afa53c20ee195c1e3dbbed1d19789854272cade6576ab6"), looks := true }, kinds := [], alts := [], laidByText := true, laidKinds := [.handle, .sentinel, .sentinel, .sentinel, .sentinel, .sentinel, .sentinel, .sentinel, .sentinel, .sentinel, .sentinel, .sentinel, .sentinel], laidTests := true, laidLooks := .later }
def WindowActsCardSaid : Prop := Claim7.holds Tryd.pinned (.plain (OpenSpec.ofChange windowActsSpec)) windowActsCard

/-- THE TIED CARD OF 'packhorselaw2.FrameTells'. -/
def frameTellsCard : Claim7 := { stood := { row := frameTellsRow, standIns := [], harness := (true, "7fb8fb2434e9711717afa53c20ee195c1e3dbbed1d19789854272cade6576ab6"), looks := true }, kinds := [], alts := [], laidByText := true, laidKinds := [.handle, .sentinel, .sentinel, .sentinel, .sentinel, .sentinel, .sentinel, .sentinel, .sentinel, .sentinel, .sentinel, .sentinel, .sentinel], laidTests := true, laidLooks := .later }
def FrameTellsCardSaid : Prop := Claim7.holds Tryd.pinned (.plain (OpenSpec.ofChange frameTellsSpec)) frameTellsCard

/-- THE TIED CARD OF 'packhorselaw2.FrameBits'. -/
def frameBitsCard : Claim7 := { stood := { row := frameBitsRow, standIns := [], harness := (true, "7fb8fb2434e9711717afa53c20ee195c1e3dbbed1d19789854272cade6576ab6"), looks := true }, kinds := [], alts := [], laidByText := true, laidKinds := [.handle, .sentinel, .sentinel, .sentinel, .sentinel, .sentinel, .sentinel, .sentinel, .sentinel, .sentinel, .sentinel, .sentinel, .sentinel], laidTests := true, laidLooks := .later }
def FrameBitsCardSaid : Prop := Claim7.holds Tryd.pinned (.plain (OpenSpec.ofChange frameBitsSpec)) frameBitsCard

/-- THE SECOND FORM's CARD OF 'packhorselaw2.WindowRounds'. -/
def windowRoundsUptoCard : Claim7 := { stood := { row := windowRoundsUptoRow, standIns := [], harness := (true, "7fb8fb2434e9711717afa53c20ee195c1e3dbbed1d19789854272cade6576ab6"), looks := true }, kinds := [], alts := [], laidByText := true, laidKinds := [.sentinel, .sentinel], laidTests := true, laidLooks := .later }
def WindowRoundsUptoCardSaid : Prop := Claim7.holds Tryd.pinned (.plain (OpenSpec.upto windowRoundsSpec)) windowRoundsUptoCard

/-- THE SECOND FORM's CARD OF 'packhorselaw2.WindowOnce'. -/
def windowOnceUptoCard : Claim7 := { stood := { row := windowOnceUptoRow, standIns := [], harness := (true, "7fb8fb2434e9711717afa53c20ee195c1e3dbbed1d19789854272cade6576ab6"), looks := true }, kinds := [], alts := [], laidByText := true, laidKinds := [.sentinel, .sentinel], laidTests := true, laidLooks := .later }
def WindowOnceUptoCardSaid : Prop := Claim7.holds Tryd.pinned (.plain (OpenSpec.upto windowOnceSpec)) windowOnceUptoCard

/-- THE SECOND FORM's CARD OF 'packhorselaw2.FrameApart'. -/
def frameApartUptoCard : Claim7 := { stood := { row := frameApartUptoRow, standIns := [], harness := (true, "7fb8fb2434e9711717afa53c20ee195c1e3dbbed1d19789854272cade6576ab6"), looks := true }, kinds := [], alts := [], laidByText := true, laidKinds := [.sentinel, .sentinel, .sentinel, .sentinel], laidTests := true, laidLooks := .later }
def FrameApartUptoCardSaid : Prop := Claim7.holds Tryd.pinned (.plain (OpenSpec.upto frameApartSpec)) frameApartUptoCard

/-- THE SECOND FORM's CARD OF 'packhorselaw2.WindowActs'. -/
def windowActsUptoCard : Claim7 := { stood := { row := windowActsUptoRow, standIns := [], harness := (true, "7fb8fb2434e9711717afa53c20ee195c1e3dbbed1d19789854272cade6576ab6"), looks := true }, kinds := [], alts := [], laidByText := true, laidKinds := [.handle, .sentinel, .sentinel, .sentinel, .sentinel, .sentinel, .sentinel, .sentinel, .sentinel, .sentinel, .sentinel, .sentinel, .sentinel], laidTests := true, laidLooks := .later }
def WindowActsUptoCardSaid : Prop := Claim7.holds Tryd.pinned (.plain (OpenSpec.upto windowActsSpec)) windowActsUptoCard

/-- THE SECOND FORM's CARD OF 'packhorselaw2.FrameTells'. -/
def frameTellsUptoCard : Claim7 := { stood := { row := frameTellsUptoRow, standIns := [], harness := (true, "7fb8fb2434e9711717afa53c20ee195c1e3dbbed1d19789854272cade6576ab6"), looks := true }, kinds := [], alts := [], laidByText := true, laidKinds := [.handle, .sentinel, .sentinel, .sentinel, .sentinel, .sentinel, .sentinel, .sentinel, .sentinel, .sentinel, .sentinel, .sentinel, .sentinel], laidTests := true, laidLooks := .later }
def FrameTellsUptoCardSaid : Prop := Claim7.holds Tryd.pinned (.plain (OpenSpec.upto frameTellsSpec)) frameTellsUptoCard

/-- THE SECOND FORM's CARD OF 'packhorselaw2.FrameBits'. -/
def frameBitsUptoCard : Claim7 := { stood := { row := frameBitsUptoRow, standIns := [], harness := (true, "7fb8fb2434e9711717afa53c20ee195c1e3dbbed1d19789854272cade6576ab6"), looks := true }, kinds := [], alts := [], laidByText := true, laidKinds := [.handle, .sentinel, .sentinel, .sentinel, .sentinel, .sentinel, .sentinel, .sentinel, .sentinel, .sentinel, .sentinel, .sentinel, .sentinel], laidTests := true, laidLooks := .later }
def FrameBitsUptoCardSaid : Prop := Claim7.holds Tryd.pinned (.plain (OpenSpec.upto frameBitsSpec)) frameBitsUptoCard
end Rows
end Go.Proofs.YtkojhnmchbhbbaaDoor
