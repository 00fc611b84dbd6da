/- Plain words of slices.IndexFunc, slices.DeleteFunc. -/
import Derived.Test.YtnjkopjbognpiaaDoorRow2
namespace Go.Proofs.YtnjkopjbognpiaaDoor
open Go.RowKit
set_option linter.unusedVariables false

section
variable {α : Type}
/-- the first place, counted from k; -1: none -/
def ixI : Nat → (α → Bool) → List α → Int
  | _, _, [] => -1
  | k, p, x :: l => if p x = true then k else ixI (k + 1) p l
variable {p : α → Bool} {l : List α} {k : Nat}
theorem ixI_start (p : α → Bool) (l : List α) : ixI 0 p l = ixI 0 p (l.drop 0) := rfl
theorem ixI_yes (h : k < l.length) (hp : p l[k] = true) : ixI k p (l.drop k) = (k : Int) := by rw [List.drop_eq_getElem_cons h, ixI, if_pos hp]
theorem ixI_no (h : k < l.length) (hp : p l[k] = false) : ixI k p (l.drop k) = ixI (k + 1) p (l.drop (k + 1)) := by rw [List.drop_eq_getElem_cons h, ixI, if_neg (by simp [hp])]
theorem ixI_end (h : l.length ≤ k) : ixI k p (l.drop k) = -1 := by rw [List.drop_of_length_le h]; rfl
theorem ixI_from (p : α → Bool) (l : List α) : ∀ k, (ixI k p l = -1 ∧ ∀ x ∈ l, p x = false) ∨ ∃ j, ∃ h : j < l.length, ixI k p l = ((k + j : Nat) : Int) ∧ p l[j] = true ∧ ∀ x ∈ l.take j, p x = false := by
  induction l with
  | nil => intro k; exact .inl ⟨rfl, by simp⟩
  | cons x l ih =>
    intro k
    unfold ixI
    cases hp : p x with
    | true => exact .inr ⟨0, by simp, by simp, by simpa using hp, by simp⟩
    | false =>
      rw [if_neg (by simp)]
      rcases ih (k + 1) with ⟨h1, h2⟩ | ⟨j, h, h1, h2, h3⟩
      · refine .inl ⟨h1, fun y hy => ?_⟩
        rcases List.mem_cons.1 hy with rfl | hy
        · exact hp
        · exact h2 y hy
      · refine .inr ⟨j + 1, by simpa using h, by rw [h1]; omega, by simpa using h2, fun y hy => ?_⟩
        rw [List.take_succ_cons] at hy
        rcases List.mem_cons.1 hy with rfl | hy
        · exact hp
        · exact h3 y hy
theorem ixI_spec (p : α → Bool) (l : List α) : (ixI 0 p l = -1 ∧ ∀ x ∈ l, p x = false) ∨ ∃ j, ∃ h : j < l.length, ixI 0 p l = (j : Int) ∧ p l[j] = true ∧ ∀ x ∈ l.take j, p x = false := by
  rcases ixI_from p l 0 with h | ⟨j, h, h1, h2⟩
  · exact .inl h
  · exact .inr ⟨j, h, by simpa using h1, h2⟩
theorem filter_first {l : List α} {j : Nat} (h : j < l.length) (hp : p l[j] = true) (ha : ∀ x ∈ l.take j, p x = false) : l.take j = (l.take (j + 1)).filter (fun x => !p x) := by
  rw [List.take_succ_eq_append_getElem h, List.filter_append, List.filter_eq_self.2 (fun x hx => by rw [ha x hx]; rfl)]
  simp [hp]
theorem dl_skip {l R : List α} {a b : Nat} (hR : R.length = l.length) (h : b < l.length) (hp : p l[b] = true) (ht : R.take a = (l.take b).filter (fun x => !p x)) (hd : R.drop b = l.drop b) :
    R.take a = (l.take (b + 1)).filter (fun x => !p x) ∧ R.drop (b + 1) = l.drop (b + 1) := by
  refine ⟨?_, by rw [← List.drop_drop, hd, List.drop_drop]⟩
  rw [ht, List.take_succ_eq_append_getElem h, List.filter_append]
  simp [hp]
theorem dl_keep {l R : List α} {a b : Nat} (hR : R.length = l.length) (hab : a < b) (h : b < l.length) (hp : p l[b] = false) (ht : R.take a = (l.take b).filter (fun x => !p x)) (hd : R.drop b = l.drop b) :
    (R.set a l[b]).take (a + 1) = (l.take (b + 1)).filter (fun x => !p x) ∧ (R.set a l[b]).drop (b + 1) = l.drop (b + 1) := by
  refine ⟨?_, by rw [List.drop_set_of_lt (by omega), ← List.drop_drop, hd, List.drop_drop]⟩
  rw [List.take_succ_eq_append_getElem (by rw [List.length_set]; omega), List.take_set_of_le (Nat.le_refl _), ht, List.take_succ_eq_append_getElem h, List.filter_append]
  simp [hp]
end
attribute [irreducible] ixI
end Go.Proofs.YtnjkopjbognpiaaDoor
