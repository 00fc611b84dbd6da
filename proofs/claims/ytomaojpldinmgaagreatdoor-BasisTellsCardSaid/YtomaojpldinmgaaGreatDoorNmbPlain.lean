/- Plain laws of the document's NumberOf, digit by digit. No program is in sight. -/
import Derived.Test.YtomaojpldinmgaaGreatDoorTapPlain
namespace Go.Proofs.YtomaojpldinmgaaGreatDoor
open Go.RowKit
set_option linter.unusedVariables false

/-- what the document's NumberOf answers -/
def nmZ (most : Nat) (d : List UInt8) : Int := match nmL most d with
  | some n => (n : Int)
  | none => -1
theorem nmZ_some {most n : Nat} {d : List UInt8} (h : nmL most d = some n) : nmZ most d = n := by unfold nmZ; rw [h]
theorem nmZ_none {most : Nat} {d : List UInt8} (h : nmL most d = none) : nmZ most d = -1 := by unfold nmZ; rw [h]
theorem nm_short {most : Nat} {d : List UInt8} (h : d.length < 1) : nmL most d = none := by
  have : d = [] := List.eq_nil_of_length_eq_zero (by omega)
  subst this
  unfold nmL
  split <;> rfl
theorem nm_long {most : Nat} {d : List UInt8} (h : most < d.length) : nmL most d = none := by
  unfold nmL
  rw [if_neg (by omega)]
theorem nm_zero {most : Nat} {d : List UInt8} (h : 1 < d.length) (h0 : d.head? = some 48) : nmL most d = none := by
  unfold nmL
  rw [if_neg (by rintro ⟨_, h1 | h1⟩; omega; exact h1 h0)]
theorem nm_rest {most : Nat} {d : List UInt8} (h1 : 1 ≤ d.length) (h2 : d.length ≤ most) (h3 : ¬ (1 < d.length ∧ d.head? = some 48)) : nmL most d = Lib.decFrom 0 d := by
  unfold nmL
  rw [if_pos ⟨h2, by by_cases h : d.length = 1; exact .inl h; exact .inr (fun e => h3 ⟨by omega, e⟩)⟩]
  unfold Lib.decNat
  cases d with
  | nil => simp at h1
  | cons c r => rfl
/-- a digit more -/
theorem nm_step {d : List UInt8} {k n : Nat} {c : UInt8} (h : Lib.decFrom 0 (d.take k) = some n) (hc : d[k]? = some c) (h1 : 48 ≤ c.toNat) (h2 : c.toNat ≤ 57) : Lib.decFrom 0 (d.take (k + 1)) = some (10 * n + (c.toNat - 48)) := by
  have hk := (List.getElem?_eq_some_iff.1 hc).1
  have e : d.take (k + 1) = d.take k ++ [c] := by
    rw [List.take_succ_eq_append_getElem hk]
    congr 2
    exact (List.getElem?_eq_some_iff.1 hc).2
  rw [e, decFrom_append, h]
  simp only [Option.bind_some, Lib.decFrom, Lib.digitVal]
  rw [if_pos (by omega)]
  simp only [Option.some.injEq]
  omega
theorem nm_bad {d : List UInt8} {k n : Nat} {c : UInt8} (hc : d[k]? = some c) (h1 : ¬ (48 ≤ c.toNat ∧ c.toNat ≤ 57)) : Lib.decFrom 0 d = none := by
  have hk := (List.getElem?_eq_some_iff.1 hc).1
  have e : d = d.take k ++ (c :: d.drop (k + 1)) := by
    have := (List.getElem?_eq_some_iff.1 hc).2
    rw [← this, ← List.drop_eq_getElem_cons hk, List.take_append_drop]
  rw [e, decFrom_append]
  cases Lib.decFrom 0 (d.take k) with
  | none => rfl
  | some a =>
    simp only [Option.bind_some, Lib.decFrom, Lib.digitVal]
    rw [if_neg (by omega)]
theorem nm_bound {l : List UInt8} {n : Nat} (h : Lib.decFrom 0 l = some n) : n < 10 ^ l.length := by
  have : ∀ (k : Nat) (l : List UInt8), l.length = k → ∀ n, Lib.decFrom 0 l = some n → n < 10 ^ k := by
    intro k
    induction k with
    | zero =>
      intro l hl n h
      have : l = [] := List.eq_nil_of_length_eq_zero hl
      subst this
      have h0 : some 0 = some n := h
      injection h0 with h0
      subst h0; decide
    | succ k ih =>
      intro l hl n h
      have hne : l ≠ [] := fun e => by rw [e] at hl; simp at hl
      obtain ⟨m, c, rfl⟩ : ∃ m c, l = m ++ [c] := ⟨l.dropLast, l.getLast hne, (List.dropLast_concat_getLast hne).symm⟩
      rw [List.length_append] at hl
      have hl' : m.length = k := by simpa using hl
      rw [decFrom_append] at h
      cases hm : Lib.decFrom 0 m with
      | none => rw [hm] at h; simp at h
      | some a =>
        rw [hm] at h
        have ha := ih m hl' a hm
        simp only [Option.bind_some, Lib.decFrom] at h
        cases hc : Lib.digitVal c with
        | none => rw [hc] at h; cases h
        | some d =>
          rw [hc] at h
          simp only [Option.some.injEq] at h
          obtain ⟨_, hd⟩ := dig_inv hc
          rw [Nat.pow_succ]
          omega
  exact this l.length l rfl n h
/-- ten times less than a bound, as a number -/
theorem nm_bound17 {l : List UInt8} {n : Nat} (h : Lib.decFrom 0 l = some n) (hl : l.length ≤ 17) : n < 100000000000000000 :=
  Nat.lt_of_lt_of_le (nm_bound h) (Nat.le_trans (Nat.pow_le_pow_right (by decide) hl) (by decide))
theorem nmZ_bd {most : Nat} {d : List UInt8} (hm : most ≤ 18) : -1 ≤ nmZ most d ∧ nmZ most d ≤ 1000000000000000000 := by
  cases h : nmL most d with
  | none => rw [nmZ_none h]; omega
  | some n =>
    rw [nmZ_some h]
    obtain ⟨h1, h2⟩ := nm_some h
    have := dec_lt (n := n) (k := 18) (by rw [h2]; omega)
    omega
/-! ### a place of a byte, by a search from the left -/
theorem cut_none_of {c : UInt8} {b : List UInt8} {d k : Nat} (h : ∀ j, d ≤ j → j < k → b[j]? ≠ some c) (hk : b.length ≤ k) : cutC c (b.drop d) = none := by
  rw [cutC_none]
  intro hm
  obtain ⟨i, hi⟩ := List.mem_iff_getElem?.1 hm
  rw [List.getElem?_drop] at hi
  have := (List.getElem?_eq_some_iff.1 hi).1
  exact h (d + i) (by omega) (by omega) hi
theorem cut_some_of {c : UInt8} {b : List UInt8} {d k : Nat} (h : ∀ j, d ≤ j → j < k → b[j]? ≠ some c) (hd : d ≤ k) (hk : b[k]? = some c) : cutC c (b.drop d) = some ((b.drop d).take (k - d), b.drop (k + 1)) := by
  have hkl := (List.getElem?_eq_some_iff.1 hk).1
  have e : b.drop d = (b.drop d).take (k - d) ++ c :: b.drop (k + 1) := by
    have h1 : (b.drop d).drop (k - d) = b.drop k := by rw [List.drop_drop]; congr 1; omega
    have h2 : b.drop k = c :: b.drop (k + 1) := by
      rw [List.drop_eq_getElem_cons hkl]
      congr 1
      exact (List.getElem?_eq_some_iff.1 hk).2
    rw [← h2, ← h1, List.take_append_drop]
  have hn : c ∉ (b.drop d).take (k - d) := by
    intro hm
    obtain ⟨i, hi⟩ := List.mem_iff_getElem?.1 hm
    rw [List.getElem?_take] at hi
    split at hi
    · rw [List.getElem?_drop] at hi
      exact h (d + i) (by omega) (by omega) hi
    · cases hi
  conv => lhs; rw [e]
  exact cutC_of hn _
end Go.Proofs.YtomaojpldinmgaaGreatDoor
