/- Texts of one proof, one behind the other: RefDelta2. -/
import Derived.Test.YtakhkcaihhpehaaGreatDoorB47
import Derived.Test.YtakhkcaihhpehaaGreatDoorB26
import Derived.Deep.DeepCutAuto
namespace Go.Proofs.YtakhkcaihhpehaaGreatDoor
open Go.RowKit
open Lib (hid)
set_option linter.unusedVariables false
set_option maxRecDepth 100000
set_option maxHeartbeats 51200000
end Go.Proofs.YtakhkcaihhpehaaGreatDoor
