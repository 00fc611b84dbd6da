/- A text cut at each byte of a kind: what strings.Split answers. No program is in sight. -/
import Derived.Test.YtkjcclbnbbbfaaaGreatDoorDecPlain
import Derived.Lib.SplitLaws
namespace Go.Proofs.YtkjcclbnbbbfaaaGreatDoor
open Go.RowKit
set_option linter.unusedVariables false

/-- the pieces of a text: the first one, and the others -/
def splH (c : UInt8) : List UInt8 → List UInt8 × List (List UInt8)
  | [] => ([], [])
  | b :: l => if b = c then ([], (splH c l).1 :: (splH c l).2) else (b :: (splH c l).1, (splH c l).2)
def splC (c : UInt8) (l : List UInt8) : List (List UInt8) := (splH c l).1 :: (splH c l).2
theorem splH_yes (c : UInt8) (l : List UInt8) : splH c (c :: l) = ([], (splH c l).1 :: (splH c l).2) := by
  conv => lhs; unfold splH
  rw [if_pos rfl]
theorem splH_no {b c : UInt8} (h : b ≠ c) (l : List UInt8) : splH c (b :: l) = (b :: (splH c l).1, (splH c l).2) := by
  conv => lhs; unfold splH
  rw [if_neg h]
theorem splC_cut (c : UInt8) (l : List UInt8) : splC c l = match cutC c l with | some p => p.1 :: splC c p.2 | none => [l] := by
  induction l with
  | nil => rfl
  | cons b l ih =>
    by_cases hb : b = c
    · subst hb
      rw [cutC_yes]
      unfold splC
      rw [splH_yes]
    · rw [cutC_no hb]
      unfold splC at ih ⊢
      rw [splH_no hb]
      cases h : cutC c l with
      | none =>
        rw [h] at ih
        simp only [List.cons.injEq] at ih
        simp [ih.1, ih.2]
      | some p =>
        rw [h] at ih
        simp only [List.cons.injEq] at ih
        simp [ih.1, ih.2]
theorem splC_len (c : UInt8) (l : List UInt8) : (splC c l).length = l.count c + 1 := by
  induction l with
  | nil => rfl
  | cons b l ih =>
    unfold splC at ih ⊢
    by_cases hb : b = c
    · subst hb
      rw [splH_yes, List.count_cons_self]
      simp only [List.length_cons] at ih ⊢
      omega
    · rw [splH_no hb, List.count_cons_of_ne (by simpa using hb)]
      simpa using ih
theorem bs_one (c : UInt8) : (bs [c]).data.toList = [c] := bs_list _
theorem splitB_is (c : UInt8) : ∀ (k : Nat) (l : List UInt8), l.length ≤ k → (Lib.splitB (bs [c]) 0 (l.count c) (bs l)) = (splC c l).map bs := by
  intro k
  induction k with
  | zero =>
    intro l hl
    have : l = [] := List.eq_nil_of_length_eq_zero (by omega)
    subst this
    rfl
  | succ k ih =>
    intro l hl
    have hi : Lib.indexB (bs l) (bs [c]) = Lib.index l [c] := by unfold Lib.indexB; rw [bs_list, bs_list]
    rw [index_cut] at hi
    rw [splC_cut]
    cases h : cutC c l with
    | none =>
      rw [h] at hi
      rw [Lib.splitB_miss _ _ _ _ hi]; rfl
    | some p =>
      rw [h] at hi
      simp only at hi
      obtain ⟨e, hn⟩ := cutC_is h
      have hc : l.count c = p.2.count c + 1 := by rw [e, List.count_append, List.count_eq_zero_of_not_mem hn, List.count_cons_self]; omega
      rw [hc, Lib.splitB_hit _ _ _ _ _ hi]
      have e1 : (bs l).extract 0 (p.1.length + 0) = bs p.1 := by
        rw [bs_take, bs_list, Nat.add_zero]
        congr 1
        rw [e]; simp
      have e2 : (bs l).extract (p.1.length + (bs [c]).size) (bs l).size = bs p.2 := by
        rw [bs_drop, bs_list, bs_size]
        congr 1
        rw [e]; simp
      rw [e1, e2, ih p.2 (by rw [e] at hl; simp at hl; omega)]
      rfl
theorem countB_is (c : UInt8) (l : List UInt8) : Lib.countB (bs l) (bs [c]) = l.count c := by unfold Lib.countB; rw [bs_list, bs_list, Lib.count_one]
theorem spl_is (c : UInt8) (l : List UInt8) : Lib.splitB (bs [c]) 0 (Lib.countB (bs l) (bs [c])) (bs l) = (splC c l).map bs ∧ Lib.countB (bs l) (bs [c]) + 1 = (splC c l).length := by
  rw [countB_is, splC_len]
  exact ⟨splitB_is c l.length l (Nat.le_refl _), rfl⟩
theorem splC_none {c : UInt8} {l : List UInt8} (h : c ∉ l) : splC c l = [l] := by rw [splC_cut, cutC_none.2 h]
theorem splC_app {c : UInt8} {a : List UInt8} (h : c ∉ a) (r : List UInt8) : splC c (a ++ c :: r) = a :: splC c r := by rw [splC_cut, cutC_of h]
/-- a text cut is put together of its pieces -/
theorem splC_mem {c : UInt8} : ∀ (k : Nat) (l : List UInt8), l.length ≤ k → ∀ x ∈ splC c l, x.length ≤ l.length ∧ c ∉ x := by
  intro k
  induction k with
  | zero =>
    intro l hl x hx
    have : l = [] := List.eq_nil_of_length_eq_zero (by omega)
    subst this
    have : x = [] := by simpa [splC, splH] using hx
    subst this
    exact ⟨Nat.le_refl _, by simp⟩
  | succ k ih =>
    intro l hl x hx
    rw [splC_cut] at hx
    cases h : cutC c l with
    | none =>
      rw [h] at hx
      simp at hx
      subst hx
      exact ⟨Nat.le_refl _, cutC_none.1 h⟩
    | some p =>
      rw [h] at hx
      obtain ⟨e, hn⟩ := cutC_is h
      have hlen : l.length = p.1.length + p.2.length + 1 := by rw [e]; simp; omega
      rcases List.mem_cons.1 hx with rfl | hx
      · exact ⟨by omega, hn⟩
      · have := ih p.2 (by omega) x hx
        exact ⟨by omega, this.2⟩
end Go.Proofs.YtkjcclbnbbbfaaaGreatDoor
