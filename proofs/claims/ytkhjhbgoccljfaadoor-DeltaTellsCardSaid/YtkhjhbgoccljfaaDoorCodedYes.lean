/- The statements' own tests of errors, where they hold. -/
import Derived.Test.YtkhjhbgoccljfaaDoorCoded
namespace Go.Proofs.YtkhjhbgoccljfaaDoor
open Go.RowKit
set_option linter.unusedVariables false

theorem coded_yes (E : Nat → Addr) (v : Value) (c : Nat) (w : World) (h : FErr E w v c (-1)) (hE : Errs E w) (hc : c ≤ 12) : Calls Tryd.prog 14 #[v, .int .i64 c] w fun e w' => e = .returned (.bool true) ∧ Below w.heap.size w w' := by
  have h := coded_any E _ c (-1) c w h hE hc
  rw [show (decide ((c : Int) = (c : Int)) && decide ((-1 : Int) = -1)) = true by simp] at h
  exact h
theorem faulted_yes (E : Nat → Addr) (v : Value) (c : Nat) (a : Int) (w : World) (h : FErr E w v c a) (hE : Errs E w) (hc : c ≤ 12) : Calls Tryd.prog 11 #[v, .agg #[.int .i64 c, .int .i64 a]] w fun e w' => e = .returned (.bool true) ∧ Below w.heap.size w w' := by
  have h := faulted_any E _ c a c a w h hE hc
  rw [show (decide ((c : Int) = (c : Int)) && (decide (c = 0) || decide (a = a))) = true by simp] at h
  exact h
theorem coded_ev (E : Nat → Addr) (c : Nat) (w : World) (hE : Errs E w) (hc : c ≤ 12) : Calls Tryd.prog 14 #[ev E c, .int .i64 c] w fun e w' => e = .returned (.bool true) ∧ Below w.heap.size w w' := coded_yes E _ c w (FErr.ev E w c) hE hc
end Go.Proofs.YtkhjhbgoccljfaaDoor
