/- Plain laws of a tape: a record is read as it was written, whatever stands behind; of a beginning of one nothing is read. No program is in sight. -/
import Derived.Test.YtkjcclbnbbbfaaaGreatDoorDecPlain
namespace Go.Proofs.YtkjcclbnbbbfaaaGreatDoor
open Go.RowKit
set_option linter.unusedVariables false

def recL (s : List UInt8) : List UInt8 := Lib.decDigits s.length ++ 58 :: (s ++ [10, 46])
theorem recL_len (s : List UInt8) : (recL s).length = (Lib.decDigits s.length).length + s.length + 3 := by unfold recL; simp; omega
theorem recL_pos (s : List UInt8) : 4 ≤ (recL s).length := by
  have := List.length_pos_iff.2 (dec_ne s.length)
  rw [recL_len]; omega
theorem recL_le {s : List UInt8} (h : s.length ≤ 20000) : (recL s).length ≤ s.length + 8 := by
  have := dec_len_le (n := s.length) (k := 4) (by omega)
  rw [recL_len]; omega
/-- the record at the beginning, if there is one -/
def oneL (b : List UInt8) : Option (List UInt8) :=
  match cutC 58 b with
  | none => none
  | some p => match nmL 9 p.1 with
    | none => none
    | some n => if n ≤ 20000 ∧ n + 2 ≤ p.2.length ∧ (p.2.drop n).take 2 = [10, 46] then some (p.2.take n) else none
theorem one_is {b s : List UInt8} (h : oneL b = some s) : s.length ≤ 20000 ∧ ∃ r, b = recL s ++ r := by
  unfold oneL at h
  split at h
  · cases h
  · rename_i p hp
    split at h
    · cases h
    · rename_i n hn
      split at h
      · rename_i hc
        injection h with h
        obtain ⟨e, _⟩ := cutC_is hp
        obtain ⟨_, hd⟩ := nm_some hn
        have hl : s.length = n := by rw [← h, List.length_take]; omega
        refine ⟨by omega, p.2.drop (n + 2), ?_⟩
        unfold recL
        rw [hl, hd, e]
        have h2 : p.2 = p.2.take n ++ ((p.2.drop n).take 2 ++ (p.2.drop n).drop 2) := by rw [List.take_append_drop, List.take_append_drop]
        conv => lhs; rw [h2]
        rw [hc.2.2, h, List.drop_drop]
        simp
      · cases h
theorem one_rec {s : List UInt8} (hs : s.length ≤ 20000) (r : List UInt8) : oneL (recL s ++ r) = some s := by
  have h58 : (58 : UInt8) ∉ Lib.decDigits s.length := fun h => by
    have h1 := dec_digit _ _ h
    have : (58 : UInt8).toNat = 58 := rfl
    omega
  have e : recL s ++ r = Lib.decDigits s.length ++ 58 :: (s ++ ([10, 46] ++ r)) := by unfold recL; simp
  unfold oneL
  rw [e, cutC_of h58]
  simp only
  rw [nm_dec _ _ (Nat.le_trans (dec_len_le (n := s.length) (k := 4) (by omega)) (by decide))]
  simp only
  rw [if_pos ⟨hs, by simp, by rw [List.drop_left]; rfl⟩, List.take_left]
theorem recL_inj {s t x y : List UInt8} (hs : s.length ≤ 20000) (ht : t.length ≤ 20000) (h : recL s ++ x = recL t ++ y) : s = t ∧ x = y := by
  have h1 := one_rec hs x
  rw [h, one_rec ht y] at h1
  cases h1
  exact ⟨rfl, List.append_cancel_left h⟩
/-- of a beginning nothing is read -/
theorem one_part {s p q : List UInt8} (hs : s.length ≤ 20000) (h : recL s = p ++ q) (hq : q ≠ []) : oneL p = none := by
  cases ho : oneL p with
  | none => rfl
  | some t =>
    obtain ⟨ht, r, rfl⟩ := one_is ho
    exfalso
    obtain ⟨_, h2⟩ := recL_inj hs ht (x := []) (y := r ++ q) (by rw [List.append_nil, h]; simp)
    have := congrArg List.length h2
    simp only [List.length_nil, List.length_append] at this
    exact hq (List.eq_nil_of_length_eq_zero (by omega))
def readT : Nat → List UInt8 → List (List UInt8) × Nat
  | 0, _ => ([], 0)
  | f + 1, b => match oneL b with
    | none => ([], 0)
    | some s => (s :: (readT f (b.drop (recL s).length)).1, (recL s).length + (readT f (b.drop (recL s).length)).2)
theorem readT_none {b : List UInt8} (h : oneL b = none) (f : Nat) : readT f b = ([], 0) := by
  cases f with
  | zero => rfl
  | succ f => unfold readT; rw [h]
theorem readT_some {b s : List UInt8} (h : oneL b = some s) (f : Nat) : readT (f + 1) b = (s :: (readT f (b.drop (recL s).length)).1, (recL s).length + (readT f (b.drop (recL s).length)).2) := by
  conv => lhs; unfold readT
  rw [h]
theorem one_drop {b s : List UInt8} (h : oneL b = some s) : (recL s).length ≤ b.length := by
  obtain ⟨_, r, rfl⟩ := one_is h
  simp
theorem readT_more : ∀ (f g : Nat) (b : List UInt8), b.length ≤ f → f ≤ g → readT f b = readT g b := by
  intro f
  induction f with
  | zero =>
    intro g b hb _
    have : b = [] := List.eq_nil_of_length_eq_zero (by omega)
    subst this
    rw [readT_none (by rfl) g]; rfl
  | succ f ih =>
    intro g b hb hg
    obtain ⟨g, rfl⟩ : ∃ k, g = k + 1 := ⟨g - 1, by omega⟩
    cases h : oneL b with
    | none => rw [readT_none h, readT_none h]
    | some s =>
      have h1 := one_drop h
      have h2 := recL_pos s
      rw [readT_some h, readT_some h, ih g _ (by rw [List.length_drop]; omega) (by omega)]
/-- what a tape's bytes tell: records, and how many bytes they have -/
def readL (b : List UInt8) : List (List UInt8) × Nat := readT b.length b
theorem readL_none {b : List UInt8} (h : oneL b = none) : readL b = ([], 0) := readT_none h _
theorem readL_some {b s : List UInt8} (h : oneL b = some s) : readL b = (s :: (readL (b.drop (recL s).length)).1, (recL s).length + (readL (b.drop (recL s).length)).2) := by
  have h1 := one_drop h
  have h2 := recL_pos s
  unfold readL
  obtain ⟨n, hn⟩ : ∃ n, b.length = n + 1 := ⟨b.length - 1, by omega⟩
  rw [hn, readT_some h, readT_more (b.drop (recL s).length).length n _ (Nat.le_refl _) (by rw [List.length_drop]; omega)]
theorem readL_rec {s : List UInt8} (hs : s.length ≤ 20000) (r : List UInt8) : readL (recL s ++ r) = (s :: (readL r).1, (recL s).length + (readL r).2) := by
  rw [readL_some (one_rec hs r), List.drop_left]
theorem readL_len (b : List UInt8) : (readL b).2 ≤ b.length := by
  have : ∀ (k : Nat) (b : List UInt8), b.length ≤ k → (readL b).2 ≤ b.length := by
    intro k
    induction k with
    | zero =>
      intro b hb
      have : b = [] := List.eq_nil_of_length_eq_zero (by omega)
      subst this
      exact Nat.le_refl _
    | succ k ih =>
      intro b hb
      cases h : oneL b with
      | none => rw [readL_none h]; exact Nat.zero_le _
      | some s =>
        have h1 := one_drop h
        have h2 := recL_pos s
        rw [readL_some h]
        have := ih (b.drop (recL s).length) (by rw [List.length_drop]; omega)
        rw [List.length_drop] at this
        simp only
        omega
  exact this b.length b (Nat.le_refl _)
theorem readL_cnt (b : List UInt8) : (readL b).1.length ≤ (readL b).2 := by
  have : ∀ (k : Nat) (b : List UInt8), b.length ≤ k → (readL b).1.length ≤ (readL b).2 := by
    intro k
    induction k with
    | zero =>
      intro b hb
      have : b = [] := List.eq_nil_of_length_eq_zero (by omega)
      subst this
      exact Nat.le_refl _
    | succ k ih =>
      intro b hb
      cases h : oneL b with
      | none => rw [readL_none h]; exact Nat.zero_le _
      | some s =>
        have h2 := recL_pos s
        have h3 := one_drop h
        rw [readL_some h]
        have := ih (b.drop (recL s).length) (by rw [List.length_drop]; omega)
        simp only [List.length_cons]
        omega
  exact this b.length b (Nat.le_refl _)
def recsL (l : List (List UInt8)) : List UInt8 := l.flatMap recL
theorem recsL_nil : recsL [] = [] := rfl
theorem recsL_snoc (l : List (List UInt8)) (s : List UInt8) : recsL (l ++ [s]) = recsL l ++ recL s := by unfold recsL; simp
theorem readL_recs (l : List (List UInt8)) (hl : ∀ s ∈ l, s.length ≤ 20000) (b : List UInt8) : readL (recsL l ++ b) = (l ++ (readL b).1, (recsL l).length + (readL b).2) := by
  induction l with
  | nil => simp [recsL]
  | cons s l ih =>
    have e : recsL (s :: l) ++ b = recL s ++ (recsL l ++ b) := by unfold recsL; simp
    rw [e, readL_rec (hl s (by simp)), ih (fun t ht => hl t (by simp [ht]))]
    have e2 : (recsL (s :: l)).length = (recL s).length + (recsL l).length := by unfold recsL; simp
    rw [e2]
    simp only [List.cons_append, Prod.mk.injEq, true_and]
    omega
/-- whole records and a beginning of one -/
theorem readL_part (l : List (List UInt8)) (hl : ∀ s ∈ l, s.length ≤ 20000) {p : List UInt8} (hp : oneL p = none) : readL (recsL l ++ p) = (l, (recsL l).length) := by
  rw [readL_recs l hl, readL_none hp]; simp
theorem recsL_le (l : List (List UInt8)) (hl : ∀ s ∈ l, s.length ≤ 200) : (recsL l).length ≤ l.length * 208 := by
  induction l with
  | nil => simp [recsL]
  | cons s l ih =>
    have h1 := hl s (by simp)
    have h2 := recL_le (s := s) (by omega)
    have h3 := ih (fun t ht => hl t (by simp [ht]))
    have e2 : (recsL (s :: l)).length = (recL s).length + (recsL l).length := by unfold recsL; simp
    rw [e2, List.length_cons]; omega

/-! ### a disk: its bytes, power is off, bytes until power fails (below 0: it does not) -/
structure TP where
  b : List UInt8
  off : Bool
  cut : Int
def wrC (d : TP) (s : List UInt8) : Nat := if d.off = true then 12 else if 0 ≤ d.cut ∧ d.cut < s.length then 12 else 0
def wrT (d : TP) (s : List UInt8) : TP :=
  if d.off = true then d else if 0 ≤ d.cut ∧ d.cut < s.length then ⟨d.b ++ s.take d.cut.toNat, true, d.cut⟩ else ⟨d.b ++ s, d.off, if 0 ≤ d.cut then d.cut - s.length else d.cut⟩
def apC (d : TP) (s : List UInt8) : Nat := if 20000 < s.length then 2 else if 1048576 < d.b.length + (recL s).length then 8 else wrC d (recL s)
def apT (d : TP) (s : List UInt8) : TP := if 20000 < s.length then d else if 1048576 < d.b.length + (recL s).length then d else wrT d (recL s)
def ctC (d : TP) (n : Int) : Nat := if n < 0 then 2 else if d.off = true then 12 else 0
def ctT (d : TP) (n : Int) : TP := if n < 0 then d else if d.off = true then d else ⟨d.b, d.off, n⟩
def onT (d : TP) : TP := ⟨d.b, false, -1⟩
def rcT (d : TP) : TP := ⟨d.b.take (readL d.b).2, false, -1⟩
theorem wrT_len (d : TP) (s : List UInt8) : (wrT d s).b.length ≤ d.b.length + s.length := by
  unfold wrT
  split
  · omega
  · split
    · simp; omega
    · simp
theorem wrT_cut (d : TP) (s : List UInt8) (h : -1 ≤ d.cut ∧ d.cut ≤ 9223372036854775807) : -1 ≤ (wrT d s).cut ∧ (wrT d s).cut ≤ 9223372036854775807 := by
  unfold wrT
  split
  · exact h
  · split
    · exact h
    · rename_i h1 h2
      simp only
      split
      · omega
      · exact h
theorem apT_len (d : TP) (s : List UInt8) : (apT d s).b.length ≤ d.b.length + (recL s).length := by
  unfold apT
  split
  · omega
  · split
    · omega
    · exact wrT_len d _
theorem apT_cut (d : TP) (s : List UInt8) (h : -1 ≤ d.cut ∧ d.cut ≤ 9223372036854775807) : -1 ≤ (apT d s).cut ∧ (apT d s).cut ≤ 9223372036854775807 := by
  unfold apT
  split
  · exact h
  · split
    · exact h
    · exact wrT_cut d _ h
end Go.Proofs.YtkjcclbnbbbfaaaGreatDoor
