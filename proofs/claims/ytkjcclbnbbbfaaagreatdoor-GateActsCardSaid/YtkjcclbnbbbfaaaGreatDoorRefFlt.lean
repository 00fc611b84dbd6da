/- The document's fault, a struct; Bare and Fine. -/
import Derived.Test.YtkjcclbnbbbfaaaGreatDoorFilChk2
namespace Go.Proofs.YtkjcclbnbbbfaaaGreatDoor
open Go.RowKit
set_option linter.unusedVariables false

def rfv (p : Nat × Int) : Value := .agg #[.int .i64 p.1, .int .i64 p.2]
theorem rfv_is (p : Nat × Int) : rfv p = .agg #[.int .i64 p.1, .int .i64 p.2] := rfl
theorem rfv_mk (p : Nat × Int) (c : Nat) (a : Int) (h : p = (c, a)) : Value.agg #[.int .i64 c, .int .i64 a] = rfv p := by rw [h, rfv_is]
theorem below_one (w : World) (o : Obj) : Below w.heap.size w (w.alloc o) := (Below.refl _ w).alloc (Nat.le_refl _) o
theorem set2 {w : World} {b : Nat} {x y : Value} {t : TypeId} (h : w.heap[b]? = some (.cells #[x, y] t (0, 0))) (u v : Value) :
    ((w.setCell ⟨b, 0, none⟩ u).setCell ⟨b, 1, none⟩ v).cell? ⟨b, 0, none⟩ = some u ∧ ((w.setCell ⟨b, 0, none⟩ u).setCell ⟨b, 1, none⟩ v).cell? ⟨b, 1, none⟩ = some v := by
  have h1 := set_at (k := 0) (u := u) h
  have h2 := set_at (k := 1) (u := v) h1
  constructor
  · simp [World.cell?, h2]
  · simp [World.cell?, h2]
set_option maxRecDepth 100000 in
theorem rbare_any (c : Int) (w : World) : Calls Tryz.prog 74 #[.int .i64 c] w fun e w' => e = .returned (.agg #[.int .i64 c, .int .i64 (-1)]) ∧ Below w.heap.size w w' := by
  go_enter Tryz.func74, Tryz.ntmps74
  go_wp2_with fail
  go_returns
  exact ⟨rfl, below_one _ _⟩
set_option maxRecDepth 100000 in
theorem rfine_any (w : World) : Calls Tryz.prog 62 #[] w fun e w' => e = .returned (.agg #[.int .i64 0, .int .i64 (-1)]) ∧ Below w.heap.size w w' := by
  go_enter Tryz.func62, Tryz.ntmps62
  go_wp2_with fail
  go_returns
  exact ⟨rfl, below_one _ _⟩
attribute [irreducible] rfv
end Go.Proofs.YtkjcclbnbbbfaaaGreatDoor
