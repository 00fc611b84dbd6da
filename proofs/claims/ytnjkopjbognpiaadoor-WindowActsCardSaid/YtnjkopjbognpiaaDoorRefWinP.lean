/- Plain laws of the document's window beside the package's. -/
import Derived.Test.YtnjkopjbognpiaaDoorRefMore
import Derived.Test.YtnjkopjbognpiaaDoorWinLaws
namespace Go.Proofs.YtnjkopjbognpiaaDoor
open Go.RowKit
set_option linter.unusedVariables false

/-- the same numbers wait -/
def SameWait (m : List (Int × List UInt8)) (l : List PK) : Prop := ∀ k, lk m k = lk (l.map fun x => (x.n, x.d)) k
theorem plI_neg (l : List Int) (n : Int) : ∀ (k : Int), 0 ≤ k → (0 ≤ plI l n k ↔ n ∈ l) := by
  induction l with
  | nil => intro k _; unfold plI; simp
  | cons x l ih =>
    intro k hk
    unfold plI
    by_cases h : x = n
    · rw [if_pos h, ← h]; simp [hk]
    · rw [if_neg h, ih (k + 1) (by omega), List.mem_cons]
      exact ⟨fun h2 => .inr h2, fun h2 => h2.elim (fun e => absurd e.symm h) id⟩
theorem lk_mem (l : List PK) (k : Int) : (lk (l.map fun x => (x.n, x.d)) k).isSome = true ↔ k ∈ l.map PK.n := by
  induction l with
  | nil => simp [lk]
  | cons x l ih =>
    rw [List.map_cons, List.map_cons, List.mem_cons]
    unfold lk at ih ⊢
    by_cases h : x.n = k
    · rw [List.find?_cons_of_pos (by simpa using h)]; simp [h]
    · rw [List.find?_cons_of_neg (by simpa using h), ih]
      exact ⟨fun h2 => .inr h2, fun h2 => h2.elim (fun e => absurd e.symm h) id⟩
theorem morR_ack {due : Int} {m : List (Int × List UInt8)} {l : List PK} (h : SameWait m l) : morR due (l.map PK.n) 32 = ackMore due m := by
  unfold morR ackMore
  refine List.filter_congr fun k _ => ?_
  have h1 := h k
  have h2 := plI_neg (l.map PK.n) k 0 (by omega)
  have h3 := lk_mem l k
  rw [← h1] at h3
  cases e : (lk m k).isSome with
  | true => rw [decide_eq_true_eq]; exact h2.2 (h3.1 e)
  | false =>
    rw [decide_eq_false_iff_not]
    intro hp
    rw [h3.2 (h2.1 hp)] at e; cases e
end Go.Proofs.YtnjkopjbognpiaaDoor
