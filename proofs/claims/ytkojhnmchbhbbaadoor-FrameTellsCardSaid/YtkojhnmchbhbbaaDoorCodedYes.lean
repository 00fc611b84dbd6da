/- The statements' own tests of errors, where they hold. -/
import Derived.Test.YtkojhnmchbhbbaaDoorCoded
namespace Go.Proofs.YtkojhnmchbhbbaaDoor
open Go.RowKit
set_option linter.unusedVariables false

theorem coded_yes (E : Nat → Addr) (v : Value) (c : Nat) (w : World) (h : FErr E w v c (-1)) (hE : Errs E w) (hc : c ≤ 12) : Calls Tryd.prog 26 #[v, .int .i64 c] w fun e w' => e = .returned (.bool true) ∧ Below w.heap.size w w' := by
  have h := coded_any E _ c (-1) c w h hE hc
  rw [show (decide ((c : Int) = (c : Int)) && decide ((-1 : Int) = -1)) = true by simp] at h
  exact h
theorem coded_ev (E : Nat → Addr) (c : Nat) (w : World) (hE : Errs E w) (hc : c ≤ 12) : Calls Tryd.prog 26 #[ev E c, .int .i64 c] w fun e w' => e = .returned (.bool true) ∧ Below w.heap.size w w' := coded_yes E _ c w (FErr.ev E w c) hE hc
end Go.Proofs.YtkojhnmchbhbbaaDoor
