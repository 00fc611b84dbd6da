/- Rows of texts. -/
import Derived.Test.YtomaojpldinmgaaGreatDoorAids
namespace Go.Proofs.YtomaojpldinmgaaGreatDoor
open Go.RowKit
set_option linter.unusedVariables false
def strV (l : List (List UInt8)) : List Value := l.map fun x => Value.string (bs x)
theorem strV_snoc (l : List (List UInt8)) (x : List UInt8) : strV (l ++ [x]) = strV l ++ [Value.string (bs x)] := by unfold strV; simp
end Go.Proofs.YtomaojpldinmgaaGreatDoor
