/- Texts of one proof, one behind the other: DecPlain, TapPlain, SplitPlain. -/
import Derived.Test.YtppkeophochgiaaGreatDoorB01
import Derived.Lib.AtoiTie
import Derived.Lib.AtoiBound
import Derived.Lib.ItoaLen
import Derived.Lib.CutLaws
import Derived.Lib.SplitLaws
/- Plain laws of decimal numbers without needless zeros: what Itoa writes, what Atoi and the document's NumberOf read. No program is in sight. -/
namespace Go.Proofs.YtppkeophochgiaaGreatDoor
open Go.RowKit
set_option linter.unusedVariables false

/-- the number that a text is, of at most so many digits, without needless zeros -/
def nmL (most : Nat) (d : List UInt8) : Option Nat := if d.length ≤ most ∧ (d.length = 1 ∨ d.head? ≠ some 48) then Lib.decNat d else none
theorem decFrom_append (l m : List UInt8) : ∀ acc, Lib.decFrom acc (l ++ m) = (Lib.decFrom acc l).bind fun n => Lib.decFrom n m := by
  induction l with
  | nil => intro acc; rfl
  | cons b r ih =>
    intro acc
    rw [List.cons_append]
    simp only [Lib.decFrom]
    cases h : Lib.digitVal b with
    | none => rfl
    | some d => exact ih _
theorem dig_val (k : Nat) (h : k < 10) : Lib.digitVal (UInt8.ofNat (48 + k)) = some k := by
  have : (UInt8.ofNat (48 + k)).toNat = 48 + k := by rw [UInt8.toNat_ofNat']; omega
  unfold Lib.digitVal
  rw [this, if_pos (by omega)]
  congr 1; omega
theorem dig_inv {b : UInt8} {d : Nat} (h : Lib.digitVal b = some d) : b = UInt8.ofNat (48 + d) ∧ d < 10 := by
  unfold Lib.digitVal at h
  split at h
  · injection h with h
    have : b.toNat = 48 + d := by omega
    refine ⟨?_, by omega⟩
    rw [← this]; simp
  · cases h
theorem dec_small {n : Nat} (h : n < 10) : Lib.decDigits n = [UInt8.ofNat (48 + n)] := by rw [Lib.decDigits, dif_pos h]
theorem dec_big {n : Nat} (h : ¬ n < 10) : Lib.decDigits n = Lib.decDigits (n / 10) ++ [UInt8.ofNat (48 + n % 10)] := by rw [Lib.decDigits, dif_neg h]
theorem dec_ne (n : Nat) : Lib.decDigits n ≠ [] := by
  by_cases h : n < 10
  · rw [dec_small h]; simp
  · rw [dec_big h]; simp
theorem dec_back (n : Nat) : Lib.decFrom 0 (Lib.decDigits n) = some n := by
  induction n using Nat.strongRecOn with
  | _ n ih =>
    by_cases h : n < 10
    · rw [dec_small h]
      unfold Lib.decFrom
      rw [dig_val n h]
      simp [Lib.decFrom]
    · rw [dec_big h, decFrom_append, ih (n / 10) (by omega)]
      simp only [Option.bind_some]
      unfold Lib.decFrom
      rw [dig_val _ (by omega)]
      simp only [Lib.decFrom, Option.some.injEq]
      omega
theorem dec_head (n : Nat) (h : 0 < n) : (Lib.decDigits n).head? ≠ some 48 := by
  induction n using Nat.strongRecOn with
  | _ n ih =>
    by_cases h9 : n < 10
    · rw [dec_small h9]
      intro e
      simp only [List.head?_cons, Option.some.injEq] at e
      have := congrArg UInt8.toNat e
      rw [UInt8.toNat_ofNat'] at this
      have h48 : (48 : UInt8).toNat = 48 := rfl
      omega
    · rw [dec_big h9]
      have := ih (n / 10) (by omega) (by omega)
      cases hd : Lib.decDigits (n / 10) with
      | nil => exact absurd hd (dec_ne _)
      | cons c r => rw [hd] at this; simpa using this
/-- what is read without needless zeros is what is written -/
theorem dec_of : ∀ (k : Nat) (l : List UInt8), l.length = k → ∀ n, l ≠ [] → Lib.decFrom 0 l = some n → (l.length = 1 ∨ l.head? ≠ some 48) → Lib.decDigits n = l := by
  intro k
  induction k with
  | zero => intro l hk n hl; exact absurd (List.eq_nil_of_length_eq_zero hk) hl
  | succ k ih =>
    intro l hk n hl h hz
    obtain ⟨m, c, rfl⟩ : ∃ m c, l = m ++ [c] := ⟨l.dropLast, l.getLast hl, (List.dropLast_concat_getLast hl).symm⟩
    rw [List.length_append] at hk
    have hk' : m.length = k := by simpa using hk
    rw [decFrom_append] at h
    cases hm : Lib.decFrom 0 m with
    | none => rw [hm] at h; simp at h
    | some a =>
      rw [hm] at h
      simp only [Option.bind_some] at h
      unfold Lib.decFrom at h
      cases hc : Lib.digitVal c with
      | none => rw [hc] at h; cases h
      | some d =>
        rw [hc] at h
        simp only [Lib.decFrom, Option.some.injEq] at h
        obtain ⟨rfl, hd⟩ := dig_inv hc
        by_cases hm0 : m = []
        · subst hm0
          simp only [Lib.decFrom, Option.some.injEq] at hm
          subst hm
          have : n = d := by omega
          subst this
          rw [dec_small hd]; rfl
        · have hz' : m.head? ≠ some 48 := by
            rcases hz with hz | hz
            · rw [List.length_append] at hz
              have : m.length = 0 := by simpa using hz
              exact absurd (List.eq_nil_of_length_eq_zero this) hm0
            · cases m with
              | nil => exact absurd rfl hm0
              | cons x m => simpa using hz
          have e := ih m hk' a hm0 hm (.inr hz')
          have ha : 0 < a := by
            rcases Nat.eq_zero_or_pos a with h0 | h0
            · subst h0
              rw [dec_small (by omega)] at e
              rw [← e] at hz'
              simp at hz'
            · exact h0
          rw [← h, dec_big (by omega), show (a * 10 + d) / 10 = a by omega, show (a * 10 + d) % 10 = d by omega, e]
theorem nm_dec (n most : Nat) (h : (Lib.decDigits n).length ≤ most) : nmL most (Lib.decDigits n) = some n := by
  unfold nmL
  have hz : (Lib.decDigits n).length = 1 ∨ (Lib.decDigits n).head? ≠ some 48 := by
    rcases Nat.eq_zero_or_pos n with rfl | h0
    · left; rw [dec_small (by omega)]; rfl
    · exact .inr (dec_head n h0)
  rw [if_pos ⟨h, hz⟩]
  unfold Lib.decNat
  rw [if_neg (by simpa [List.isEmpty_iff] using dec_ne n)]
  exact dec_back n
theorem nm_some {most : Nat} {d : List UInt8} {n : Nat} (h : nmL most d = some n) : d.length ≤ most ∧ Lib.decDigits n = d := by
  unfold nmL at h
  split at h
  · rename_i hc
    obtain ⟨h1, h2⟩ := Lib.decNat_some h
    exact ⟨hc.1, dec_of _ d rfl n h1 h2 hc.2⟩
  · cases h
theorem nm_iff {most : Nat} {d : List UInt8} {n : Nat} : nmL most d = some n ↔ d.length ≤ most ∧ Lib.decDigits n = d :=
  ⟨nm_some, fun ⟨h1, h2⟩ => by subst h2; exact nm_dec n most h1⟩
theorem dec_first {n : Nat} : ∃ c r, Lib.decDigits n = c :: r ∧ c.toNat ≠ 43 ∧ c.toNat ≠ 45 := by
  cases h : Lib.decDigits n with
  | nil => exact absurd h (dec_ne n)
  | cons c r =>
    have hb := dec_back n
    rw [h] at hb
    unfold Lib.decFrom at hb
    cases hc : Lib.digitVal c with
    | none => rw [hc] at hb; cases hb
    | some d =>
      have := Lib.digitVal_eq hc
      exact ⟨c, r, rfl, by omega, by omega⟩
/-- Atoi of what is written -/
theorem atoi_dec (n : Nat) (h : (Lib.decDigits n).length ≤ 18) : Lib.atoiAll (Lib.decDigits n) = .ok (n : Int) := by
  rw [Lib.atoiAll_short _ h]
  obtain ⟨c, r, e, h1, h2⟩ := dec_first (n := n)
  have hb := dec_back n
  have h3 : (c == 45) = false := by rw [beq_eq_false_iff_ne]; rintro rfl; exact h2 rfl
  have h4 : (c == 43) = false := by rw [beq_eq_false_iff_ne]; rintro rfl; exact h1 rfl
  rw [e] at hb ⊢
  simp only [Lib.atoi, h3, h4, Lib.decNat, List.isEmpty_cons, hb]
  rfl
theorem nm_of_ok {most : Nat} {d : List UInt8} {v : Int} (hd : d.length ≤ most) (h0 : 0 ≤ v) (hi : Lib.itoa v = d) : nmL most d = some v.toNat := by
  refine nm_iff.2 ⟨hd, ?_⟩
  rw [← hi]
  obtain ⟨n, rfl⟩ : ∃ n : Nat, v = n := ⟨v.toNat, by omega⟩
  rw [Lib.itoa_nonneg]; simp
theorem ok_of_nm {most : Nat} {d : List UInt8} {n : Nat} (hm : most ≤ 18) (h : nmL most d = some n) : Lib.atoiAll d = .ok (n : Int) ∧ d.length ≤ most ∧ Lib.itoa (n : Int) = d := by
  obtain ⟨h1, h2⟩ := nm_some h
  subst h2
  exact ⟨atoi_dec n (by omega), h1, Lib.itoa_nonneg n⟩
theorem dec_len_le {n k : Nat} (h : n < 10 ^ (k + 1)) : (Lib.decDigits n).length ≤ k + 1 := by
  rw [Lib.decDigits_length]
  induction k generalizing n with
  | zero => rw [Lib.nDigits_small (by simpa using h)]; exact Nat.le_refl _
  | succ k ih =>
    by_cases h9 : n < 10
    · rw [Lib.nDigits_small h9]; omega
    · rw [Lib.nDigits_big h9]
      have := ih (n := n / 10) (by rw [Nat.pow_succ] at h; omega)
      omega
end Go.Proofs.YtppkeophochgiaaGreatDoor
/- A text cut at a byte: what strings.Cut answers. No program is in sight. -/
namespace Go.Proofs.YtppkeophochgiaaGreatDoor
open Go.RowKit
set_option linter.unusedVariables false

def cutC (c : UInt8) : List UInt8 → Option (List UInt8 × List UInt8)
  | [] => none
  | b :: l => if b = c then some ([], l) else (cutC c l).map fun p => (b :: p.1, p.2)
theorem cutC_yes (c : UInt8) (l : List UInt8) : cutC c (c :: l) = some ([], l) := by unfold cutC; rw [if_pos rfl]
theorem cutC_no {b c : UInt8} (h : b ≠ c) (l : List UInt8) : cutC c (b :: l) = (cutC c l).map fun p => (b :: p.1, p.2) := by
  conv => lhs; unfold cutC
  rw [if_neg h]
theorem cutC_is {c : UInt8} {l : List UInt8} {p : List UInt8 × List UInt8} (h : cutC c l = some p) : l = p.1 ++ c :: p.2 ∧ c ∉ p.1 := by
  induction l generalizing p with
  | nil => cases h
  | cons b l ih =>
    by_cases hb : b = c
    · subst hb
      rw [cutC_yes] at h
      cases h
      exact ⟨rfl, by simp⟩
    · rw [cutC_no hb] at h
      obtain ⟨q, hq, rfl⟩ := Option.map_eq_some_iff.1 h
      obtain ⟨e, hn⟩ := ih hq
      refine ⟨by rw [e]; simp, ?_⟩
      simp only [List.mem_cons, not_or]
      exact ⟨fun e => hb e.symm, by simpa using hn⟩
theorem cutC_none {c : UInt8} {l : List UInt8} : cutC c l = none ↔ c ∉ l := by
  induction l with
  | nil => simp [cutC]
  | cons b l ih =>
    by_cases hb : b = c
    · subst hb; rw [cutC_yes]; simp
    · rw [cutC_no hb, Option.map_eq_none_iff, ih]
      simp only [List.mem_cons, not_or]
      exact ⟨fun h => ⟨fun e => hb e.symm, h⟩, fun h => h.2⟩
theorem index_cons (b c : UInt8) (l : List UInt8) : Lib.index (b :: l) [c] = if b = c then 0 else if Lib.index l [c] = -1 then -1 else Lib.index l [c] + 1 := by
  rw [Lib.index]
  by_cases h : b = c
  · subst h; simp [List.isPrefixOf]
  · have h' : (c == b) = false := by rw [beq_eq_false_iff_ne]; exact fun e => h e.symm
    simp [List.isPrefixOf, h, h']
theorem index_cut (c : UInt8) (l : List UInt8) : Lib.index l [c] = match cutC c l with | some p => (p.1.length : Int) | none => -1 := by
  induction l with
  | nil => rfl
  | cons b l ih =>
    rw [index_cons]
    by_cases hb : b = c
    · subst hb; rw [if_pos rfl, cutC_yes]; rfl
    · rw [if_neg hb, cutC_no hb]
      cases h : cutC c l with
      | none => rw [h] at ih; rw [ih]; rfl
      | some p =>
        rw [h] at ih
        simp only at ih
        rw [ih, if_neg (by omega)]
        simp
theorem cut_is (c : UInt8) (l : List UInt8) : Lib.cut l [c] = match cutC c l with | some p => (p.1, p.2, true) | none => (l, [], false) := by
  have h := index_cut c l
  unfold Lib.cut
  cases e : cutC c l with
  | none => rw [e] at h; simp only at h; rw [h]; rfl
  | some p =>
    rw [e] at h
    simp only at h
    obtain ⟨hl, _⟩ := cutC_is e
    rw [h, if_pos (by omega)]
    simp only [Int.toNat_natCast]
    rw [hl]
    simp
def cutA (c : UInt8) (l : List UInt8) : List UInt8 := match cutC c l with | some p => p.1 | none => l
def cutB (c : UInt8) (l : List UInt8) : List UInt8 := match cutC c l with | some p => p.2 | none => []
theorem cut_a (c : UInt8) (l : List UInt8) : (Lib.cut l [c]).1 = cutA c l ∧ (Lib.cut l [c]).2.1 = cutB c l ∧ (Lib.cut l [c]).2.2 = (cutC c l).isSome := by
  rw [cut_is]
  unfold cutA cutB
  cases cutC c l <;> exact ⟨rfl, rfl, rfl⟩
theorem cutA_len (c : UInt8) (l : List UInt8) : (cutA c l).length ≤ l.length := by
  unfold cutA
  cases h : cutC c l with
  | none => exact Nat.le_refl _
  | some p => obtain ⟨e, _⟩ := cutC_is h; rw [e]; simp
theorem cutB_len (c : UInt8) (l : List UInt8) : (cutB c l).length ≤ l.length := by
  unfold cutB
  cases h : cutC c l with
  | none => simp
  | some p => obtain ⟨e, _⟩ := cutC_is h; rw [e]; simp; omega
end Go.Proofs.YtppkeophochgiaaGreatDoor
/- Plain laws of a tape: a record is read as it was written, whatever stands behind; of a beginning of one nothing is read. No program is in sight. -/
namespace Go.Proofs.YtppkeophochgiaaGreatDoor
open Go.RowKit
set_option linter.unusedVariables false

def recL (s : List UInt8) : List UInt8 := Lib.decDigits s.length ++ 58 :: (s ++ [10, 46])
theorem recL_len (s : List UInt8) : (recL s).length = (Lib.decDigits s.length).length + s.length + 3 := by unfold recL; simp; omega
theorem recL_pos (s : List UInt8) : 4 ≤ (recL s).length := by
  have := List.length_pos_iff.2 (dec_ne s.length)
  rw [recL_len]; omega
theorem recL_le {s : List UInt8} (h : s.length ≤ 20000) : (recL s).length ≤ s.length + 8 := by
  have := dec_len_le (n := s.length) (k := 4) (by omega)
  rw [recL_len]; omega
/-- the record at the beginning, if there is one -/
def oneL (b : List UInt8) : Option (List UInt8) :=
  match cutC 58 b with
  | none => none
  | some p => match nmL 9 p.1 with
    | none => none
    | some n => if n ≤ 20000 ∧ n + 2 ≤ p.2.length ∧ (p.2.drop n).take 2 = [10, 46] then some (p.2.take n) else none
theorem one_is {b s : List UInt8} (h : oneL b = some s) : s.length ≤ 20000 ∧ ∃ r, b = recL s ++ r := by
  unfold oneL at h
  split at h
  · cases h
  · rename_i p hp
    split at h
    · cases h
    · rename_i n hn
      split at h
      · rename_i hc
        injection h with h
        obtain ⟨e, _⟩ := cutC_is hp
        obtain ⟨_, hd⟩ := nm_some hn
        have hl : s.length = n := by rw [← h, List.length_take]; omega
        refine ⟨by omega, p.2.drop (n + 2), ?_⟩
        unfold recL
        rw [hl, hd, e]
        have h2 : p.2 = p.2.take n ++ ((p.2.drop n).take 2 ++ (p.2.drop n).drop 2) := by rw [List.take_append_drop, List.take_append_drop]
        conv => lhs; rw [h2]
        rw [hc.2.2, h, List.drop_drop]
        simp
      · cases h
def readT : Nat → List UInt8 → List (List UInt8) × Nat
  | 0, _ => ([], 0)
  | f + 1, b => match oneL b with
    | none => ([], 0)
    | some s => (s :: (readT f (b.drop (recL s).length)).1, (recL s).length + (readT f (b.drop (recL s).length)).2)
theorem readT_none {b : List UInt8} (h : oneL b = none) (f : Nat) : readT f b = ([], 0) := by
  cases f with
  | zero => rfl
  | succ f => unfold readT; rw [h]
theorem readT_some {b s : List UInt8} (h : oneL b = some s) (f : Nat) : readT (f + 1) b = (s :: (readT f (b.drop (recL s).length)).1, (recL s).length + (readT f (b.drop (recL s).length)).2) := by
  conv => lhs; unfold readT
  rw [h]
theorem one_drop {b s : List UInt8} (h : oneL b = some s) : (recL s).length ≤ b.length := by
  obtain ⟨_, r, rfl⟩ := one_is h
  simp
theorem readT_more : ∀ (f g : Nat) (b : List UInt8), b.length ≤ f → f ≤ g → readT f b = readT g b := by
  intro f
  induction f with
  | zero =>
    intro g b hb _
    have : b = [] := List.eq_nil_of_length_eq_zero (by omega)
    subst this
    rw [readT_none (by rfl) g]; rfl
  | succ f ih =>
    intro g b hb hg
    obtain ⟨g, rfl⟩ : ∃ k, g = k + 1 := ⟨g - 1, by omega⟩
    cases h : oneL b with
    | none => rw [readT_none h, readT_none h]
    | some s =>
      have h1 := one_drop h
      have h2 := recL_pos s
      rw [readT_some h, readT_some h, ih g _ (by rw [List.length_drop]; omega) (by omega)]
/-- what a tape's bytes tell: records, and how many bytes they have -/
def readL (b : List UInt8) : List (List UInt8) × Nat := readT b.length b
theorem readL_none {b : List UInt8} (h : oneL b = none) : readL b = ([], 0) := readT_none h _
theorem readL_some {b s : List UInt8} (h : oneL b = some s) : readL b = (s :: (readL (b.drop (recL s).length)).1, (recL s).length + (readL (b.drop (recL s).length)).2) := by
  have h1 := one_drop h
  have h2 := recL_pos s
  unfold readL
  obtain ⟨n, hn⟩ : ∃ n, b.length = n + 1 := ⟨b.length - 1, by omega⟩
  rw [hn, readT_some h, readT_more (b.drop (recL s).length).length n _ (Nat.le_refl _) (by rw [List.length_drop]; omega)]
theorem readL_len (b : List UInt8) : (readL b).2 ≤ b.length := by
  have : ∀ (k : Nat) (b : List UInt8), b.length ≤ k → (readL b).2 ≤ b.length := by
    intro k
    induction k with
    | zero =>
      intro b hb
      have : b = [] := List.eq_nil_of_length_eq_zero (by omega)
      subst this
      exact Nat.le_refl _
    | succ k ih =>
      intro b hb
      cases h : oneL b with
      | none => rw [readL_none h]; exact Nat.zero_le _
      | some s =>
        have h1 := one_drop h
        have h2 := recL_pos s
        rw [readL_some h]
        have := ih (b.drop (recL s).length) (by rw [List.length_drop]; omega)
        rw [List.length_drop] at this
        simp only
        omega
  exact this b.length b (Nat.le_refl _)
theorem readL_cnt (b : List UInt8) : (readL b).1.length ≤ (readL b).2 := by
  have : ∀ (k : Nat) (b : List UInt8), b.length ≤ k → (readL b).1.length ≤ (readL b).2 := by
    intro k
    induction k with
    | zero =>
      intro b hb
      have : b = [] := List.eq_nil_of_length_eq_zero (by omega)
      subst this
      exact Nat.le_refl _
    | succ k ih =>
      intro b hb
      cases h : oneL b with
      | none => rw [readL_none h]; exact Nat.zero_le _
      | some s =>
        have h2 := recL_pos s
        have h3 := one_drop h
        rw [readL_some h]
        have := ih (b.drop (recL s).length) (by rw [List.length_drop]; omega)
        simp only [List.length_cons]
        omega
  exact this b.length b (Nat.le_refl _)
/-! ### a disk: its bytes, power is off, bytes until power fails (below 0: it does not) -/
structure TP where
  b : List UInt8
  off : Bool
  cut : Int
def wrC (d : TP) (s : List UInt8) : Nat := if d.off = true then 12 else if 0 ≤ d.cut ∧ d.cut < s.length then 12 else 0
def wrT (d : TP) (s : List UInt8) : TP :=
  if d.off = true then d else if 0 ≤ d.cut ∧ d.cut < s.length then ⟨d.b ++ s.take d.cut.toNat, true, d.cut⟩ else ⟨d.b ++ s, d.off, if 0 ≤ d.cut then d.cut - s.length else d.cut⟩
def apC (d : TP) (s : List UInt8) : Nat := if 20000 < s.length then 2 else if 1048576 < d.b.length + (recL s).length then 8 else wrC d (recL s)
def apT (d : TP) (s : List UInt8) : TP := if 20000 < s.length then d else if 1048576 < d.b.length + (recL s).length then d else wrT d (recL s)
def ctC (d : TP) (n : Int) : Nat := if n < 0 then 2 else if d.off = true then 12 else 0
def ctT (d : TP) (n : Int) : TP := if n < 0 then d else if d.off = true then d else ⟨d.b, d.off, n⟩
def onT (d : TP) : TP := ⟨d.b, false, -1⟩
def rcT (d : TP) : TP := ⟨d.b.take (readL d.b).2, false, -1⟩
theorem wrT_len (d : TP) (s : List UInt8) : (wrT d s).b.length ≤ d.b.length + s.length := by
  unfold wrT
  split
  · omega
  · split
    · simp; omega
    · simp
theorem wrT_cut (d : TP) (s : List UInt8) (h : -1 ≤ d.cut ∧ d.cut ≤ 9223372036854775807) : -1 ≤ (wrT d s).cut ∧ (wrT d s).cut ≤ 9223372036854775807 := by
  unfold wrT
  split
  · exact h
  · split
    · exact h
    · rename_i h1 h2
      simp only
      split
      · omega
      · exact h
theorem apT_cut (d : TP) (s : List UInt8) (h : -1 ≤ d.cut ∧ d.cut ≤ 9223372036854775807) : -1 ≤ (apT d s).cut ∧ (apT d s).cut ≤ 9223372036854775807 := by
  unfold apT
  split
  · exact h
  · split
    · exact h
    · exact wrT_cut d _ h
end Go.Proofs.YtppkeophochgiaaGreatDoor
/- A text cut at each byte of a kind: what strings.Split answers. No program is in sight. -/
namespace Go.Proofs.YtppkeophochgiaaGreatDoor
open Go.RowKit
set_option linter.unusedVariables false

/-- the pieces of a text: the first one, and the others -/
def splH (c : UInt8) : List UInt8 → List UInt8 × List (List UInt8)
  | [] => ([], [])
  | b :: l => if b = c then ([], (splH c l).1 :: (splH c l).2) else (b :: (splH c l).1, (splH c l).2)
def splC (c : UInt8) (l : List UInt8) : List (List UInt8) := (splH c l).1 :: (splH c l).2
theorem splH_yes (c : UInt8) (l : List UInt8) : splH c (c :: l) = ([], (splH c l).1 :: (splH c l).2) := by
  conv => lhs; unfold splH
  rw [if_pos rfl]
theorem splH_no {b c : UInt8} (h : b ≠ c) (l : List UInt8) : splH c (b :: l) = (b :: (splH c l).1, (splH c l).2) := by
  conv => lhs; unfold splH
  rw [if_neg h]
theorem splC_cut (c : UInt8) (l : List UInt8) : splC c l = match cutC c l with | some p => p.1 :: splC c p.2 | none => [l] := by
  induction l with
  | nil => rfl
  | cons b l ih =>
    by_cases hb : b = c
    · subst hb
      rw [cutC_yes]
      unfold splC
      rw [splH_yes]
    · rw [cutC_no hb]
      unfold splC at ih ⊢
      rw [splH_no hb]
      cases h : cutC c l with
      | none =>
        rw [h] at ih
        simp only [List.cons.injEq] at ih
        simp [ih.1, ih.2]
      | some p =>
        rw [h] at ih
        simp only [List.cons.injEq] at ih
        simp [ih.1, ih.2]
theorem splC_len (c : UInt8) (l : List UInt8) : (splC c l).length = l.count c + 1 := by
  induction l with
  | nil => rfl
  | cons b l ih =>
    unfold splC at ih ⊢
    by_cases hb : b = c
    · subst hb
      rw [splH_yes, List.count_cons_self]
      simp only [List.length_cons] at ih ⊢
      omega
    · rw [splH_no hb, List.count_cons_of_ne (by simpa using hb)]
      simpa using ih
theorem splitB_is (c : UInt8) : ∀ (k : Nat) (l : List UInt8), l.length ≤ k → (Lib.splitB (bs [c]) 0 (l.count c) (bs l)) = (splC c l).map bs := by
  intro k
  induction k with
  | zero =>
    intro l hl
    have : l = [] := List.eq_nil_of_length_eq_zero (by omega)
    subst this
    rfl
  | succ k ih =>
    intro l hl
    have hi : Lib.indexB (bs l) (bs [c]) = Lib.index l [c] := by unfold Lib.indexB; rw [bs_list, bs_list]
    rw [index_cut] at hi
    rw [splC_cut]
    cases h : cutC c l with
    | none =>
      rw [h] at hi
      rw [Lib.splitB_miss _ _ _ _ hi]; rfl
    | some p =>
      rw [h] at hi
      simp only at hi
      obtain ⟨e, hn⟩ := cutC_is h
      have hc : l.count c = p.2.count c + 1 := by rw [e, List.count_append, List.count_eq_zero_of_not_mem hn, List.count_cons_self]; omega
      rw [hc, Lib.splitB_hit _ _ _ _ _ hi]
      have e1 : (bs l).extract 0 (p.1.length + 0) = bs p.1 := by
        rw [bs_take, bs_list, Nat.add_zero]
        congr 1
        rw [e]; simp
      have e2 : (bs l).extract (p.1.length + (bs [c]).size) (bs l).size = bs p.2 := by
        rw [bs_drop, bs_list, bs_size]
        congr 1
        rw [e]; simp
      rw [e1, e2, ih p.2 (by rw [e] at hl; simp at hl; omega)]
      rfl
theorem countB_is (c : UInt8) (l : List UInt8) : Lib.countB (bs l) (bs [c]) = l.count c := by unfold Lib.countB; rw [bs_list, bs_list, Lib.count_one]
theorem spl_is (c : UInt8) (l : List UInt8) : Lib.splitB (bs [c]) 0 (Lib.countB (bs l) (bs [c])) (bs l) = (splC c l).map bs ∧ Lib.countB (bs l) (bs [c]) + 1 = (splC c l).length := by
  rw [countB_is, splC_len]
  exact ⟨splitB_is c l.length l (Nat.le_refl _), rfl⟩
/-- a text cut is put together of its pieces -/
theorem splC_mem {c : UInt8} : ∀ (k : Nat) (l : List UInt8), l.length ≤ k → ∀ x ∈ splC c l, x.length ≤ l.length ∧ c ∉ x := by
  intro k
  induction k with
  | zero =>
    intro l hl x hx
    have : l = [] := List.eq_nil_of_length_eq_zero (by omega)
    subst this
    have : x = [] := by simpa [splC, splH] using hx
    subst this
    exact ⟨Nat.le_refl _, by simp⟩
  | succ k ih =>
    intro l hl x hx
    rw [splC_cut] at hx
    cases h : cutC c l with
    | none =>
      rw [h] at hx
      simp at hx
      subst hx
      exact ⟨Nat.le_refl _, cutC_none.1 h⟩
    | some p =>
      rw [h] at hx
      obtain ⟨e, hn⟩ := cutC_is h
      have hlen : l.length = p.1.length + p.2.length + 1 := by rw [e]; simp; omega
      rcases List.mem_cons.1 hx with rfl | hx
      · exact ⟨by omega, hn⟩
      · have := ih p.2 (by omega) x hx
        exact ⟨by omega, this.2⟩
end Go.Proofs.YtppkeophochgiaaGreatDoor
