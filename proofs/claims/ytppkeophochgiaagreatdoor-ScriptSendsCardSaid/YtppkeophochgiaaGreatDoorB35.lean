/- Texts of one proof, one behind the other: SubBs. -/
import Derived.Test.YtppkeophochgiaaGreatDoorB32
import Derived.Test.YtppkeophochgiaaGreatDoorB08
/- Cuts and bytes of a text. -/
namespace Go.Proofs.YtppkeophochgiaaGreatDoor
open Go.RowKit
set_option linter.unusedVariables false
end Go.Proofs.YtppkeophochgiaaGreatDoor
/- Rows of texts. -/
namespace Go.Proofs.YtppkeophochgiaaGreatDoor
open Go.RowKit
set_option linter.unusedVariables false
def strV (l : List (List UInt8)) : List Value := l.map fun x => Value.string (bs x)
theorem strV_snoc (l : List (List UInt8)) (x : List UInt8) : strV (l ++ [x]) = strV l ++ [Value.string (bs x)] := by unfold strV; simp
end Go.Proofs.YtppkeophochgiaaGreatDoor
