/-
  DERIVED. GIVEN WITH THE SEED: THE CARDS: each row of YtnjkopjbognpiaaDoorRows.lean that lists a variable, with what it lists TIED to the program's text (the seventh form; the later family's looks); each row that meets fmt, with fmt's text TOLD by the authors' own Lean function (tested against real Go, not proved from fmt's source: count such statements apart). THE CARD IS WHAT COUNTS. Prove the row's statement (the work); the ties are given (YtnjkopjbognpiaaDoorTie.lean); close each card by the builder's one call (the guide's Derived/Test/ToyasCard.lean, 'card_holds'). Laid BY PROGRAM, IN A SANDBOX (cutbox-door.mjs). By AI agents, Wed Nov 11 2026. No macro, syntax, notation, axiom, sorry.
-/
import Derived.Test.YtnjkopjbognpiaaDoorRows
import GoSem.ClaimSeven
namespace Go.Proofs.YtnjkopjbognpiaaDoor
namespace Rows

/-- THE TIED CARD OF 'packhorselaw2.WindowActs'. -/
def windowActsCard : Claim7 := { stood := { row := windowActsRow, standIns := [], harness := (true, "f4f26ede7bb75aa1b76486bf0b943e05dede05871f2a468a4a341e9fc552ef2b"), looks := true }, kinds := [], alts := [], laidByText := true, laidKinds := [.handle, .sentinel, .sentinel, .sentinel, .sentinel, .sentinel, .sentinel, .sentinel, .sentinel, .sentinel, .sentinel, .sentinel, .sentinel], laidTests := true, laidLooks := .later }
def WindowActsCardSaid : Prop := Claim7.holds Tryd.pinned (.plain (OpenSpec.ofChange windowActsSpec)) windowActsCard

/-- THE SECOND FORM's CARD OF 'packhorselaw2.WindowActs'. -/
def windowActsUptoCard : Claim7 := { stood := { row := windowActsUptoRow, standIns := [], harness := (true, "f4f26ede7bb75aa1b76486bf0b943e05dede05871f2a468a4a341e9fc552ef2b"), looks := true }, kinds := [], alts := [], laidByText := true, laidKinds := [.handle, .sentinel, .sentinel, .sentinel, .sentinel, .sentinel, .sentinel, .sentinel, .sentinel, .sentinel, .sentinel, .sentinel, .sentinel], laidTests := true, laidLooks := .later }
def WindowActsUptoCardSaid : Prop := Claim7.holds Tryd.pinned (.plain (OpenSpec.upto windowActsSpec)) windowActsUptoCard
end Rows
end Go.Proofs.YtnjkopjbognpiaaDoor
