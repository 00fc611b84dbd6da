/- A text cut at a byte: what strings.Cut answers. No program is in sight. -/
import Derived.Test.YtkjcclbnbbbfaaaGreatDoorDecPlain
import Derived.Lib.CutLaws
namespace Go.Proofs.YtkjcclbnbbbfaaaGreatDoor
open Go.RowKit
set_option linter.unusedVariables false

def cutC (c : UInt8) : List UInt8 → Option (List UInt8 × List UInt8)
  | [] => none
  | b :: l => if b = c then some ([], l) else (cutC c l).map fun p => (b :: p.1, p.2)
theorem cutC_nil (c : UInt8) : cutC c [] = none := rfl
theorem cutC_yes (c : UInt8) (l : List UInt8) : cutC c (c :: l) = some ([], l) := by unfold cutC; rw [if_pos rfl]
theorem cutC_no {b c : UInt8} (h : b ≠ c) (l : List UInt8) : cutC c (b :: l) = (cutC c l).map fun p => (b :: p.1, p.2) := by
  conv => lhs; unfold cutC
  rw [if_neg h]
theorem cutC_is {c : UInt8} {l : List UInt8} {p : List UInt8 × List UInt8} (h : cutC c l = some p) : l = p.1 ++ c :: p.2 ∧ c ∉ p.1 := by
  induction l generalizing p with
  | nil => cases h
  | cons b l ih =>
    by_cases hb : b = c
    · subst hb
      rw [cutC_yes] at h
      cases h
      exact ⟨rfl, by simp⟩
    · rw [cutC_no hb] at h
      obtain ⟨q, hq, rfl⟩ := Option.map_eq_some_iff.1 h
      obtain ⟨e, hn⟩ := ih hq
      refine ⟨by rw [e]; simp, ?_⟩
      simp only [List.mem_cons, not_or]
      exact ⟨fun e => hb e.symm, by simpa using hn⟩
theorem cutC_of {c : UInt8} {a : List UInt8} (h : c ∉ a) (r : List UInt8) : cutC c (a ++ c :: r) = some (a, r) := by
  induction a with
  | nil => exact cutC_yes c r
  | cons b a ih =>
    simp only [List.mem_cons, not_or] at h
    rw [List.cons_append, cutC_no (fun e => h.1 e.symm), ih h.2]; rfl
theorem cutC_none {c : UInt8} {l : List UInt8} : cutC c l = none ↔ c ∉ l := by
  induction l with
  | nil => simp [cutC]
  | cons b l ih =>
    by_cases hb : b = c
    · subst hb; rw [cutC_yes]; simp
    · rw [cutC_no hb, Option.map_eq_none_iff, ih]
      simp only [List.mem_cons, not_or]
      exact ⟨fun h => ⟨fun e => hb e.symm, h⟩, fun h => h.2⟩
theorem index_cons (b c : UInt8) (l : List UInt8) : Lib.index (b :: l) [c] = if b = c then 0 else if Lib.index l [c] = -1 then -1 else Lib.index l [c] + 1 := by
  rw [Lib.index]
  by_cases h : b = c
  · subst h; simp [List.isPrefixOf]
  · have h' : (c == b) = false := by rw [beq_eq_false_iff_ne]; exact fun e => h e.symm
    simp [List.isPrefixOf, h, h']
theorem index_cut (c : UInt8) (l : List UInt8) : Lib.index l [c] = match cutC c l with | some p => (p.1.length : Int) | none => -1 := by
  induction l with
  | nil => rfl
  | cons b l ih =>
    rw [index_cons]
    by_cases hb : b = c
    · subst hb; rw [if_pos rfl, cutC_yes]; rfl
    · rw [if_neg hb, cutC_no hb]
      cases h : cutC c l with
      | none => rw [h] at ih; rw [ih]; rfl
      | some p =>
        rw [h] at ih
        simp only at ih
        rw [ih, if_neg (by omega)]
        simp
theorem cut_is (c : UInt8) (l : List UInt8) : Lib.cut l [c] = match cutC c l with | some p => (p.1, p.2, true) | none => (l, [], false) := by
  have h := index_cut c l
  unfold Lib.cut
  cases e : cutC c l with
  | none => rw [e] at h; simp only at h; rw [h]; rfl
  | some p =>
    rw [e] at h
    simp only at h
    obtain ⟨hl, _⟩ := cutC_is e
    rw [h, if_pos (by omega)]
    simp only [Int.toNat_natCast]
    rw [hl]
    simp
def cutA (c : UInt8) (l : List UInt8) : List UInt8 := match cutC c l with | some p => p.1 | none => l
def cutB (c : UInt8) (l : List UInt8) : List UInt8 := match cutC c l with | some p => p.2 | none => []
theorem cut_a (c : UInt8) (l : List UInt8) : (Lib.cut l [c]).1 = cutA c l ∧ (Lib.cut l [c]).2.1 = cutB c l ∧ (Lib.cut l [c]).2.2 = (cutC c l).isSome := by
  rw [cut_is]
  unfold cutA cutB
  cases cutC c l <;> exact ⟨rfl, rfl, rfl⟩
theorem cutA_len (c : UInt8) (l : List UInt8) : (cutA c l).length ≤ l.length := by
  unfold cutA
  cases h : cutC c l with
  | none => exact Nat.le_refl _
  | some p => obtain ⟨e, _⟩ := cutC_is h; rw [e]; simp
theorem cutB_len (c : UInt8) (l : List UInt8) : (cutB c l).length ≤ l.length := by
  unfold cutB
  cases h : cutC c l with
  | none => simp
  | some p => obtain ⟨e, _⟩ := cutC_is h; rw [e]; simp; omega
end Go.Proofs.YtkjcclbnbbbfaaaGreatDoor
