/- Texts of one proof, one behind the other: RefFilGet, OwnFl, RefFlt, RefLines, RefFilFault. -/
import Derived.Test.YtppkeophochgiaaGreatDoorB14
import Derived.Test.YtppkeophochgiaaGreatDoorB12
import Derived.Test.YtppkeophochgiaaGreatDoorB24
/- The document's GetOf; a statement's LongFiles. -/
namespace Go.Proofs.YtppkeophochgiaaGreatDoor
open Go.RowKit
set_option linter.unusedVariables false

end Go.Proofs.YtppkeophochgiaaGreatDoor
/- The document's SameFiles and GetOf. -/
namespace Go.Proofs.YtppkeophochgiaaGreatDoor
open Go.RowKit
set_option linter.unusedVariables false

end Go.Proofs.YtppkeophochgiaaGreatDoor
/- Contracts of a statement's OwnFiles and LongFiles, by a law of another package. -/
namespace Go.Proofs.YtppkeophochgiaaGreatDoor
open Go.RowKit
set_option linter.unusedVariables false
end Go.Proofs.YtppkeophochgiaaGreatDoor
/- The document's fault, a struct; Bare and Fine. -/
namespace Go.Proofs.YtppkeophochgiaaGreatDoor
open Go.RowKit
set_option linter.unusedVariables false

end Go.Proofs.YtppkeophochgiaaGreatDoor
/- The document's LinesFault. -/
namespace Go.Proofs.YtppkeophochgiaaGreatDoor
open Go.RowKit
set_option linter.unusedVariables false

/-- a line of the document's -/
structure PM where
  n : List UInt8
  N : Int
  S : Int
deriving DecidableEq
def PM.vals (x : PM) : List Value := [.string (bs x.n), .int .i64 x.N, .int .i64 x.S]
end Go.Proofs.YtppkeophochgiaaGreatDoor
/- The document's FilesFault. -/
namespace Go.Proofs.YtppkeophochgiaaGreatDoor
open Go.RowKit
set_option linter.unusedVariables false

def PF.m (f : PF) : PM := ⟨f.n, f.d.length, 0⟩
end Go.Proofs.YtppkeophochgiaaGreatDoor
