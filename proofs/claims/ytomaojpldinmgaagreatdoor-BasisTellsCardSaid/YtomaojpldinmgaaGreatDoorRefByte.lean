/- The document's Byte. -/
import Derived.Test.YtomaojpldinmgaaGreatDoorErr
import Derived.Handy
namespace Go.Proofs.YtomaojpldinmgaaGreatDoor
open Go.RowKit
set_option linter.unusedVariables false

theorem rbyte_any (c : UInt8) (w : World) : Calls Tryz.prog 119 #[.int .i64 c.toNat] w fun e w' => e = .returned (.string (bs [c])) ∧ Below w.heap.size w w' := by
  have hc := c.toNat_lt
  have CV := fun (w' : World) => conv_one (P := Tryz.prog) w' 156 9 5 Tryz.underlying156 Tryz.underlying5 Tryz.underlying9 w.heap.size 1 c
  have HCV := Lib.hid (CV (w.alloc (.cells #[.int .u8 c.toNat] 5)) (by simp))
  have hcv := HCV.out
  have HB := Lib.hid (show bs [c] = ⟨#[c]⟩ by unfold bs; rfl)
  have x1 : (c.toNat : Int) < 256 := by omega
  clear CV HCV
  go_enter Tryz.func119, Tryz.ntmps119
  go_wp2_with fail
  go_ret
  exact ⟨by rw [HB.out]; rfl, (Below.refl _ w).alloc (Nat.le_refl _) _⟩
theorem bs_add (a b : List UInt8) : bs a ++ bs b = bs (a ++ b) := eq_bs (by simp)
end Go.Proofs.YtomaojpldinmgaaGreatDoor
