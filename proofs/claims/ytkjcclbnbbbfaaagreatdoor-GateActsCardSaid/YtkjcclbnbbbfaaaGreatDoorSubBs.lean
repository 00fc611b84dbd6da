/- Cuts and bytes of a text. -/
import Derived.Test.YtkjcclbnbbbfaaaGreatDoorNmbPlain
import Derived.Test.YtkjcclbnbbbfaaaGreatDoorAids
namespace Go.Proofs.YtkjcclbnbbbfaaaGreatDoor
open Go.RowKit
set_option linter.unusedVariables false
theorem sub_bs (b : List UInt8) (i k : Nat) : (bs b).extract i k = bs ((b.drop i).take (k - i)) := by
  apply eq_bs
  rw [Lib.extract_data, bs_list]
theorem bs_get (b : List UInt8) (k : Nat) (h : k < (bs b).size) : b[k]? = some ((bs b)[k]'h) := by
  have := get_bs (bs b) k h
  rwa [bs_list] at this
end Go.Proofs.YtkjcclbnbbbfaaaGreatDoor
/- Rows of texts. -/
namespace Go.Proofs.YtkjcclbnbbbfaaaGreatDoor
open Go.RowKit
set_option linter.unusedVariables false
def strV (l : List (List UInt8)) : List Value := l.map fun x => Value.string (bs x)
theorem strV_snoc (l : List (List UInt8)) (x : List UInt8) : strV (l ++ [x]) = strV l ++ [Value.string (bs x)] := by unfold strV; simp
end Go.Proofs.YtkjcclbnbbbfaaaGreatDoor
