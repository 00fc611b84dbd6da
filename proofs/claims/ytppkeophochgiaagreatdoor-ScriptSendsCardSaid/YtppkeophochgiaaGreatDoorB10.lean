/- Texts of one proof, one behind the other: FilPlain, Sum. -/
import Derived.Test.YtppkeophochgiaaGreatDoorB03
import Derived.Lib.Bytealg
import Derived.Test.YtppkeophochgiaaGreatDoorRows
import Derived.Test.YtppkeophochgiaaGreatDoorB01
import Derived.Test.YtppkeophochgiaaGreatDoorB02
import Derived.Outline
/- Plain words of files: names, lines, lists that are put, dropped, planned. No program is in sight. -/
namespace Go.Proofs.YtppkeophochgiaaGreatDoor
open Go.RowKit
set_option linter.unusedVariables false

/-! ### names -/
def ltL (a b : List UInt8) : Bool := Op.bytesLess a b
theorem ltL_nil_right (a : List UInt8) : ltL a [] = false := by unfold ltL Op.bytesLess; cases a <;> rfl
theorem ltL_nil_cons (b : UInt8) (y : List UInt8) : ltL [] (b :: y) = true := by unfold ltL Op.bytesLess; rfl
theorem ltL_cons (a b : UInt8) (x y : List UInt8) : ltL (a :: x) (b :: y) = (decide (a < b) || (a == b && ltL x y)) := by unfold ltL; rw [Op.bytesLess]
theorem ltL_irrefl (a : List UInt8) : ltL a a = false := by
  induction a with
  | nil => exact ltL_nil_right _
  | cons a x ih => rw [ltL_cons, ih]; simp
theorem ltL_trans {a b c : List UInt8} (h : ltL a b = true) (k : ltL b c = true) : ltL a c = true := by
  induction a generalizing b c with
  | nil =>
    cases c with
    | nil => rw [ltL_nil_right] at k; cases k
    | cons c z => exact ltL_nil_cons _ _
  | cons a x ih =>
    cases b with
    | nil => rw [ltL_nil_right] at h; cases h
    | cons b y =>
      cases c with
      | nil => rw [ltL_nil_right] at k; cases k
      | cons c z =>
        rw [ltL_cons] at h k ⊢
        simp only [Bool.or_eq_true, decide_eq_true_eq, Bool.and_eq_true, beq_iff_eq] at h k ⊢
        rcases h with h | ⟨rfl, h⟩
        · rcases k with k | ⟨rfl, k⟩
          · exact .inl (UInt8.lt_trans h k)
          · exact .inl h
        · rcases k with k | ⟨rfl, k⟩
          · exact .inl k
          · exact .inr ⟨rfl, ih h k⟩
theorem ltL_tri (a b : List UInt8) : ltL a b = true ∨ a = b ∨ ltL b a = true := by
  induction a generalizing b with
  | nil =>
    cases b with
    | nil => exact .inr (.inl rfl)
    | cons b y => exact .inl (ltL_nil_cons _ _)
  | cons a x ih =>
    cases b with
    | nil => exact .inr (.inr (ltL_nil_cons _ _))
    | cons b y =>
      rw [ltL_cons, ltL_cons]
      simp only [Bool.or_eq_true, decide_eq_true_eq, Bool.and_eq_true, beq_iff_eq]
      rcases (show a = b ∨ a < b ∨ b < a by
        by_cases e : a = b
        · exact .inl e
        · exact .inr (UInt8.lt_or_lt_of_ne e)) with e | e | e
      · subst e
        rcases ih y with h | h | h
        · exact .inl (.inr ⟨rfl, h⟩)
        · exact .inr (.inl (by rw [h]))
        · exact .inr (.inr (.inr ⟨rfl, h⟩))
      · exact .inl (.inl e)
      · exact .inr (.inr (.inl e))
theorem ltL_asymm {a b : List UInt8} (h : ltL a b = true) : ltL b a = false := by
  cases k : ltL b a with
  | false => rfl
  | true => have := ltL_trans h k; rw [ltL_irrefl] at this; cases this
theorem ltL_ne {a b : List UInt8} (h : ltL a b = true) : a ≠ b := by rintro rfl; rw [ltL_irrefl] at h; cases h
theorem cmp_lt {a b : List UInt8} (h : ltL a b = true) : Lib.compareBytes a b = -1 := by
  induction a generalizing b with
  | nil =>
    cases b with
    | nil => rw [ltL_nil_right] at h; cases h
    | cons b y => rfl
  | cons a x ih =>
    cases b with
    | nil => rw [ltL_nil_right] at h; cases h
    | cons b y =>
      rw [ltL_cons] at h
      simp only [Bool.or_eq_true, decide_eq_true_eq, Bool.and_eq_true, beq_iff_eq] at h
      unfold Lib.compareBytes
      rcases h with h | ⟨rfl, h⟩
      · rw [if_pos h]
      · rw [if_neg (UInt8.lt_irrefl a), if_neg (UInt8.lt_irrefl a)]; exact ih h
theorem cmp_gt {a b : List UInt8} (h : ltL b a = true) : Lib.compareBytes a b = 1 := by
  induction a generalizing b with
  | nil => rw [ltL_nil_right] at h; cases h
  | cons a x ih =>
    cases b with
    | nil => rfl
    | cons b y =>
      rw [ltL_cons] at h
      simp only [Bool.or_eq_true, decide_eq_true_eq, Bool.and_eq_true, beq_iff_eq] at h
      unfold Lib.compareBytes
      rcases h with h | ⟨rfl, h⟩
      · rw [if_neg (UInt8.lt_asymm h), if_pos h]
      · rw [if_neg (UInt8.lt_irrefl b), if_neg (UInt8.lt_irrefl b)]; exact ih h
theorem cmp_eq (a : List UInt8) : Lib.compareBytes a a = 0 := by
  induction a with
  | nil => rfl
  | cons a x ih => unfold Lib.compareBytes; rw [if_neg (UInt8.lt_irrefl a), if_neg (UInt8.lt_irrefl a)]; exact ih
theorem cmp_lt_iff (a b : List UInt8) : Lib.compareBytes a b < 0 ↔ ltL a b = true := by
  constructor
  · intro h
    rcases ltL_tri a b with k | k | k
    · exact k
    · subst k; rw [cmp_eq] at h; omega
    · rw [cmp_gt k] at h; omega
  · intro h; rw [cmp_lt h]; omega
theorem cmp_eq_iff (a b : List UInt8) : Lib.compareBytes a b = 0 ↔ a = b := by
  constructor
  · intro h
    rcases ltL_tri a b with k | k | k
    · rw [cmp_lt k] at h; omega
    · exact k
    · rw [cmp_gt k] at h; omega
  · rintro rfl; exact cmp_eq _

def nchB (c : UInt8) : Bool := (decide (97 ≤ c) && decide (c ≤ 122)) || (decide (48 ≤ c) && decide (c ≤ 57)) || c == 46 || c == 45
def nameB (s : List UInt8) : Bool := decide (1 ≤ s.length) && decide (s.length ≤ 12) && s.all nchB
theorem nameB_iff (s : List UInt8) : nameB s = true ↔ 1 ≤ s.length ∧ s.length ≤ 12 ∧ s.all nchB = true := by
  unfold nameB; rw [Bool.and_eq_true, Bool.and_eq_true, decide_eq_true_eq, decide_eq_true_eq, and_assoc]

/-! ### lines, and their faults -/
structure PL where
  n : List UInt8
  N : Int
  S : Nat
deriving DecidableEq
structure PF where
  n : List UInt8
  d : List UInt8
deriving DecidableEq
def lnBad (first : Bool) (last : List UInt8) (x : PL) : Nat :=
  if nameB x.n = false then 5 else if x.N < 0 ∨ 4000 < x.N then 2 else if first = false ∧ ltL last x.n = false then 9 else 0
theorem lnBad_name {f : Bool} {last : List UInt8} {x : PL} (h : nameB x.n = false) : lnBad f last x = 5 := by unfold lnBad; rw [if_pos h]
theorem lnBad_bound {f : Bool} {last : List UInt8} {x : PL} (h : nameB x.n = true) (h2 : x.N < 0 ∨ 4000 < x.N) : lnBad f last x = 2 := by unfold lnBad; rw [if_neg (by simp [h]), if_pos h2]
theorem lnBad_order {last : List UInt8} {x : PL} (h : nameB x.n = true) (h2 : ¬ (x.N < 0 ∨ 4000 < x.N)) (h3 : ltL last x.n = false) : lnBad false last x = 9 := by unfold lnBad; rw [if_neg (by simp [h]), if_neg h2, if_pos ⟨rfl, h3⟩]
theorem lnBad_first {last : List UInt8} {x : PL} (h : nameB x.n = true) (h2 : ¬ (x.N < 0 ∨ 4000 < x.N)) : lnBad true last x = 0 := by unfold lnBad; rw [if_neg (by simp [h]), if_neg h2, if_neg (by simp)]
theorem lnBad_next {f : Bool} {last : List UInt8} {x : PL} (h : nameB x.n = true) (h2 : ¬ (x.N < 0 ∨ 4000 < x.N)) (h3 : ltL last x.n = true) : lnBad f last x = 0 := by unfold lnBad; rw [if_neg (by simp [h]), if_neg h2, if_neg (by simp [h3])]
theorem lnBad_le (f : Bool) (last : List UInt8) (x : PL) : lnBad f last x ≤ 12 := by
  unfold lnBad
  by_cases h1 : nameB x.n = false
  · rw [if_pos h1]; omega
  · rw [if_neg h1]
    by_cases h2 : x.N < 0 ∨ 4000 < x.N
    · rw [if_pos h2]; omega
    · rw [if_neg h2]
      by_cases h3 : f = false ∧ ltL last x.n = false
      · rw [if_pos h3]; omega
      · rw [if_neg h3]; omega
theorem lnBad_zero {f : Bool} {last : List UInt8} {x : PL} (h : lnBad f last x = 0) : nameB x.n = true ∧ 0 ≤ x.N ∧ x.N ≤ 4000 ∧ (f = false → ltL last x.n = true) := by
  unfold lnBad at h
  split at h
  · cases h
  · rename_i h1
    split at h
    · cases h
    · rename_i h2
      split at h
      · cases h
      · rename_i h3
        refine ⟨by simpa using h1, by omega, by omega, fun hf => ?_⟩
        cases hl : ltL last x.n with
        | true => rfl
        | false => exact absurd ⟨hf, hl⟩ h3
def lnFrom : Nat → List UInt8 → List PL → Nat × Int
  | _, _, [] => (0, -1)
  | k, last, x :: l => if lnBad (k == 0) last x = 0 then lnFrom (k + 1) x.n l else (lnBad (k == 0) last x, k)
def lnFault (l : List PL) : Nat × Int := if 20 < l.length then (8, -1) else lnFrom 0 [] l
theorem lnFrom_step {k : Nat} {last : List UInt8} {l : List PL} (h : k < l.length) (h0 : lnBad (k == 0) last l[k] = 0) : lnFrom k last (l.drop k) = lnFrom (k + 1) l[k].n (l.drop (k + 1)) := by
  rw [List.drop_eq_getElem_cons h, lnFrom, if_pos h0]
theorem lnFrom_bad {k : Nat} {last : List UInt8} {l : List PL} (h : k < l.length) {c : Nat} (hc : lnBad (k == 0) last l[k] = c) (h0 : c ≠ 0) : lnFrom k last (l.drop k) = (c, (k : Int)) := by
  subst hc
  rw [List.drop_eq_getElem_cons h, lnFrom, if_neg h0]
theorem lnFrom_end {k : Nat} {last : List UInt8} {l : List PL} (h : l.length ≤ k) : lnFrom k last (l.drop k) = (0, -1) := by rw [List.drop_of_length_le h]; rfl
theorem lnFault_full {l : List PL} (h : 20 < l.length) : lnFault l = (8, -1) := by unfold lnFault; rw [if_pos h]
theorem lnFault_from {l : List PL} (h : ¬ 20 < l.length) : lnFault l = lnFrom 0 [] (l.drop 0) := by unfold lnFault; rw [if_neg h]; rfl
theorem lnFrom_le (l : List PL) : ∀ k last, (lnFrom k last l).1 ≤ 12 ∧ ((lnFrom k last l).1 = 0 → (lnFrom k last l).2 = -1) := by
  induction l with
  | nil => intro k last; exact ⟨Nat.zero_le _, fun _ => rfl⟩
  | cons x l ih =>
    intro k last
    unfold lnFrom
    by_cases h : lnBad (k == 0) last x = 0
    · rw [if_pos h]; exact ih _ _
    · rw [if_neg h]; exact ⟨lnBad_le _ _ _, fun e => absurd e h⟩
/-- lines that are well -/
structure LWF (l : List PL) : Prop where
  few : l.length ≤ 20
  each : ∀ x ∈ l, nameB x.n = true ∧ 0 ≤ x.N ∧ x.N ≤ 4000
  sorted : l.Pairwise fun a b => ltL a.n b.n = true
theorem lnFrom_wf (l : List PL) : ∀ (k : Nat) (last : List UInt8), ((lnFrom k last l).1 = 0 ↔ (∀ x ∈ l, nameB x.n = true ∧ 0 ≤ x.N ∧ x.N ≤ 4000) ∧ l.Pairwise (fun a b => ltL a.n b.n = true) ∧ (k ≠ 0 → ∀ x ∈ l, ltL last x.n = true)) := by
  induction l with
  | nil => intro k last; simp [lnFrom]
  | cons x l ih =>
    intro k last
    unfold lnFrom
    by_cases h : lnBad (k == 0) last x = 0
    · rw [if_pos h, ih]
      have hz := lnBad_zero h
      constructor
      · rintro ⟨h1, h2, h3⟩
        have h3 := h3 (by omega)
        refine ⟨?_, List.pairwise_cons.2 ⟨h3, h2⟩, fun hk y hy => ?_⟩
        · intro y hy
          rcases List.mem_cons.1 hy with rfl | hy
          · exact ⟨hz.1, hz.2.1, hz.2.2.1⟩
          · exact h1 y hy
        · have hl := hz.2.2.2 (by simpa using hk)
          rcases List.mem_cons.1 hy with rfl | hy
          · exact hl
          · exact ltL_trans hl (h3 y hy)
      · rintro ⟨h1, h2, h3⟩
        have h2 := List.pairwise_cons.1 h2
        exact ⟨fun y hy => h1 y (List.mem_cons_of_mem _ hy), h2.2, fun _ => h2.1⟩
    · rw [if_neg h]
      constructor
      · intro e; exact absurd e h
      · rintro ⟨h1, h2, h3⟩
        exfalso
        obtain ⟨a, b, c⟩ := h1 x (by simp)
        by_cases hk : k = 0
        · subst hk; exact h (lnBad_first a (by omega))
        · exact h (lnBad_next a (by omega) (h3 hk x (by simp)))
theorem lnFault_wf (l : List PL) : (lnFault l).1 = 0 ↔ LWF l := by
  unfold lnFault
  by_cases h : 20 < l.length
  · rw [if_pos h]
    constructor
    · intro e; exact absurd e (by decide)
    · intro w; have := w.few; omega
  · rw [if_neg h, lnFrom_wf]
    exact ⟨fun ⟨a, b, _⟩ => ⟨by omega, a, b⟩, fun w => ⟨w.each, w.sorted, fun e => absurd rfl e⟩⟩

/-! ### files -/
/-- a file as it is checked -/
def PF.chk (f : PF) : PL := ⟨f.n, f.d.length, 0⟩
def flFault (l : List PF) : Nat × Int := lnFault (l.map PF.chk)
structure FWF (l : List PF) : Prop where
  few : l.length ≤ 20
  each : ∀ x ∈ l, nameB x.n = true ∧ x.d.length ≤ 4000
  sorted : l.Pairwise fun a b => ltL a.n b.n = true
theorem flFault_wf (l : List PF) : (flFault l).1 = 0 ↔ FWF l := by
  unfold flFault
  rw [lnFault_wf]
  constructor
  · intro h
    refine ⟨by simpa using h.few, fun x hx => ?_, ?_⟩
    · obtain ⟨a, b, c⟩ := h.each x.chk (List.mem_map_of_mem hx)
      exact ⟨a, by have : ((x.d.length : Int)) ≤ 4000 := c; omega⟩
    · exact List.pairwise_map.1 h.sorted
  · intro h
    refine ⟨by simpa using h.few, fun x hx => ?_, List.pairwise_map.2 h.sorted⟩
    obtain ⟨f, hf, rfl⟩ := List.mem_map.1 hx
    obtain ⟨a, b⟩ := h.each f hf
    exact ⟨a, by unfold PF.chk; simp, by unfold PF.chk; simp; omega⟩
def fgetL (l : List PF) (n : List UInt8) : Option (List UInt8) := (l.find? fun f => f.n == n).map PF.d
def dropL (l : List PF) (n : List UInt8) : List PF := l.filter fun f => f.n != n
def fputL (l : List PF) (n d : List UInt8) : List PF :=
  match l with
  | [] => [⟨n, d⟩]
  | f :: l => if f.n = n then ⟨n, d⟩ :: l else if ltL n f.n = true then ⟨n, d⟩ :: f :: l else f :: fputL l n d
/-- how many names come ahead -/
def placeL (l : List PF) (n : List UInt8) : Nat := (l.filter fun f => ltL f.n n).length
end Go.Proofs.YtppkeophochgiaaGreatDoor
/- Laws of files that are put, dropped, got. No program is in sight. -/
namespace Go.Proofs.YtppkeophochgiaaGreatDoor
open Go.RowKit
set_option linter.unusedVariables false

theorem place_iff (l : List PF) (n : List UInt8) (hs : l.Pairwise fun a b => ltL a.n b.n = true) (k : Nat) (hk : k < l.length) : ltL l[k].n n = true ↔ k < placeL l n := by
  induction l generalizing k with
  | nil => simp at hk
  | cons f l ih =>
    have hp := List.pairwise_cons.1 hs
    unfold placeL
    by_cases hf : ltL f.n n = true
    · rw [List.filter_cons_of_pos (p := fun f : PF => ltL f.n n) hf, List.length_cons]
      cases k with
      | zero => simp [hf]
      | succ k => simpa [placeL] using ih hp.2 k (by simpa using hk)
    · rw [List.filter_cons_of_neg (p := fun f : PF => ltL f.n n) hf]
      have : (l.filter fun g => ltL g.n n) = [] := by
        rw [List.filter_eq_nil_iff]
        intro g hg hgn
        exact hf (ltL_trans (hp.1 g hg) hgn)
      rw [this]
      simp only [List.length_nil, Nat.not_lt_zero, iff_false]
      cases k with
      | zero => exact hf
      | succ k =>
        intro h
        exact hf (ltL_trans (hp.1 _ (by simp)) h)
theorem place_le (l : List PF) (n : List UInt8) : placeL l n ≤ l.length := List.length_filter_le _ _
/-- the place of a name, found by halves -/
theorem place_of {l : List PF} {n : List UInt8} (hs : l.Pairwise fun a b => ltL a.n b.n = true) {k : Nat} (hk : k ≤ l.length) (h1 : ∀ j (h : j < l.length), j < k → ltL l[j].n n = true) (h2 : ∀ j (h : j < l.length), k ≤ j → ltL l[j].n n = false) : k = placeL l n := by
  have hle := place_le l n
  rcases Nat.lt_trichotomy k (placeL l n) with h | h | h
  · have := (place_iff l n hs k (by omega)).2 h
    rw [h2 k (by omega) (Nat.le_refl _)] at this; cases this
  · exact h
  · have := (place_iff l n hs (placeL l n) (by omega)).1 (h1 _ (by omega) h)
    omega
theorem fputL_there {l : List PF} {n d : List UInt8} (hs : l.Pairwise fun a b => ltL a.n b.n = true) (h : placeL l n < l.length) (hn : (l[placeL l n]'h).n = n) : fputL l n d = l.set (placeL l n) ⟨n, d⟩ := by
  induction l with
  | nil => simp at h
  | cons f l ih =>
    have hp := List.pairwise_cons.1 hs
    by_cases hf : ltL f.n n = true
    · have e : placeL (f :: l) n = placeL l n + 1 := by unfold placeL; rw [List.filter_cons_of_pos (p := fun f : PF => ltL f.n n) hf]; rfl
      have hfn : f.n ≠ n := ltL_ne hf
      have hf2 : ¬ ltL n f.n = true := by rw [ltL_asymm hf]; simp
      unfold fputL
      rw [if_neg hfn, if_neg hf2]
      simp only [e, List.length_cons, List.set_cons_succ, List.getElem_cons_succ] at h hn ⊢
      rw [ih hp.2 (by omega) hn]
    · have e : placeL (f :: l) n = 0 := by
        unfold placeL
        rw [List.filter_cons_of_neg (p := fun f : PF => ltL f.n n) hf, List.filter_eq_nil_iff.2]
        · rfl
        · intro g hg hgn; exact hf (ltL_trans (hp.1 g hg) hgn)
      simp only [e, List.getElem_cons_zero, List.set_cons_zero] at hn ⊢
      unfold fputL
      rw [if_pos hn]
theorem fputL_new {l : List PF} {n d : List UInt8} (hs : l.Pairwise fun a b => ltL a.n b.n = true) (hn : ∀ h : placeL l n < l.length, (l[placeL l n]'h).n ≠ n) : fputL l n d = l.take (placeL l n) ++ ⟨n, d⟩ :: l.drop (placeL l n) := by
  induction l with
  | nil => rfl
  | cons f l ih =>
    have hp := List.pairwise_cons.1 hs
    by_cases hf : ltL f.n n = true
    · have e : placeL (f :: l) n = placeL l n + 1 := by unfold placeL; rw [List.filter_cons_of_pos (p := fun f : PF => ltL f.n n) hf]; rfl
      have hfn : f.n ≠ n := ltL_ne hf
      have hf2 : ¬ ltL n f.n = true := by rw [ltL_asymm hf]; simp
      simp only [e, List.length_cons, List.getElem_cons_succ] at hn ⊢
      unfold fputL
      rw [if_neg hfn, if_neg hf2, List.take_succ_cons, List.drop_succ_cons, ih hp.2 (fun h => hn (by omega))]
      rfl
    · have e : placeL (f :: l) n = 0 := by
        unfold placeL
        rw [List.filter_cons_of_neg (p := fun f : PF => ltL f.n n) hf, List.filter_eq_nil_iff.2]
        · rfl
        · intro g hg hgn; exact hf (ltL_trans (hp.1 g hg) hgn)
      simp only [e, List.getElem_cons_zero] at hn ⊢
      have hfn := hn (by simp)
      have hlt : ltL n f.n = true := by
        rcases ltL_tri f.n n with h | h | h
        · exact absurd h hf
        · exact absurd h hfn
        · exact h
      unfold fputL
      rw [if_neg hfn, if_pos hlt]
      rfl
theorem mem_fputL (l : List PF) (n d : List UInt8) (g : PF) (h : g ∈ fputL l n d) : g = ⟨n, d⟩ ∨ g ∈ l := by
  induction l with
  | nil => simpa [fputL] using h
  | cons f l ih =>
    unfold fputL at h
    split at h
    · rcases List.mem_cons.1 h with h | h
      · exact .inl h
      · exact .inr (List.mem_cons_of_mem _ h)
    · split at h
      · rcases List.mem_cons.1 h with h | h
        · exact .inl h
        · exact .inr h
      · rcases List.mem_cons.1 h with h | h
        · exact .inr (by simp [h])
        · exact (ih h).imp id (List.mem_cons_of_mem _)
theorem fputL_mem (l : List PF) (n d : List UInt8) : (⟨n, d⟩ : PF) ∈ fputL l n d := by
  induction l with
  | nil => simp [fputL]
  | cons f l ih =>
    unfold fputL
    split
    · simp
    · split
      · simp
      · exact List.mem_cons_of_mem _ ih
theorem fputL_other {l : List PF} {n d : List UInt8} {g : PF} (h : g ∈ l) (hn : g.n ≠ n) : g ∈ fputL l n d := by
  induction l with
  | nil => cases h
  | cons f l ih =>
    unfold fputL
    split
    · rename_i hf
      rcases List.mem_cons.1 h with rfl | h
      · exact absurd hf hn
      · exact List.mem_cons_of_mem _ h
    · split
      · exact List.mem_cons_of_mem _ h
      · rcases List.mem_cons.1 h with rfl | h
        · simp
        · exact List.mem_cons_of_mem _ (ih h)
theorem fputL_sorted {l : List PF} (n d : List UInt8) (hs : l.Pairwise fun a b => ltL a.n b.n = true) : (fputL l n d).Pairwise fun a b => ltL a.n b.n = true := by
  induction l with
  | nil => simp [fputL]
  | cons f l ih =>
    have hp := List.pairwise_cons.1 hs
    unfold fputL
    split
    · rename_i hf
      exact List.pairwise_cons.2 ⟨fun g hg => by have := hp.1 g hg; rw [hf] at this; exact this, hp.2⟩
    · rename_i hfn
      split
      · rename_i hf
        exact List.pairwise_cons.2 ⟨fun g hg => by
          rcases List.mem_cons.1 hg with rfl | hg
          · exact hf
          · exact ltL_trans hf (hp.1 g hg), hs⟩
      · rename_i hf
        refine List.pairwise_cons.2 ⟨fun g hg => ?_, ih hp.2⟩
        rcases mem_fputL _ _ _ _ hg with rfl | hg
        · rcases ltL_tri f.n n with h | h | h
          · exact h
          · exact absurd h hfn
          · exact absurd h hf
        · exact hp.1 g hg
theorem fputL_len (l : List PF) (n d : List UInt8) : (fputL l n d).length ≤ l.length + 1 := by
  induction l with
  | nil => simp [fputL]
  | cons f l ih =>
    unfold fputL
    split
    · simp
    · split
      · simp
      · simp only [List.length_cons]; omega
theorem find_sorted {l : List PF} (hs : l.Pairwise fun a b => ltL a.n b.n = true) {g : PF} (h : g ∈ l) : (l.find? fun f => f.n == g.n) = some g := by
  induction l with
  | nil => cases h
  | cons f l ih =>
    have hp := List.pairwise_cons.1 hs
    rcases List.mem_cons.1 h with rfl | h
    · rw [List.find?_cons_of_pos (by simp)]
    · rw [List.find?_cons_of_neg (by simpa using ltL_ne (hp.1 g h))]
      exact ih hp.2 h
theorem fgetL_of {l : List PF} (hs : l.Pairwise fun a b => ltL a.n b.n = true) {g : PF} (h : g ∈ l) : fgetL l g.n = some g.d := by
  unfold fgetL; rw [find_sorted hs h]; rfl
theorem fgetL_some {l : List PF} {n d : List UInt8} (h : fgetL l n = some d) : (⟨n, d⟩ : PF) ∈ l := by
  unfold fgetL at h
  obtain ⟨f, hf, rfl⟩ := Option.map_eq_some_iff.1 h
  have h1 := List.mem_of_find?_eq_some hf
  have h2 := List.find?_some hf
  have : f.n = n := by simpa using h2
  subst this
  exact h1
theorem fgetL_none {l : List PF} {n : List UInt8} (h : fgetL l n = none) : ∀ f ∈ l, f.n ≠ n := by
  unfold fgetL at h
  rw [Option.map_eq_none_iff, List.find?_eq_none] at h
  intro f hf e
  exact h f hf (by simp [e])
theorem names_nodup {l : List PF} (hs : l.Pairwise fun a b => ltL a.n b.n = true) : (l.map PF.n).Nodup := by
  unfold List.Nodup
  exact List.pairwise_map.2 (hs.imp fun h => ltL_ne h)
theorem nodup_sub {α : Type} [DecidableEq α] {a b : List α} (h : a.Nodup) (hs : ∀ x ∈ a, x ∈ b) : a.length ≤ b.length := by
  induction a generalizing b with
  | nil => simp
  | cons x a ih =>
    have h := List.pairwise_cons.1 h
    have hx := hs x (by simp)
    have := ih (b := b.erase x) h.2 (fun y hy => by
      have hne : y ≠ x := fun e => h.1 y hy e.symm
      exact (List.mem_erase_of_ne hne).2 (hs y (List.mem_cons_of_mem _ hy)))
    rw [List.length_erase_of_mem hx] at this
    have hb : 0 < b.length := List.length_pos_of_mem hx
    simp only [List.length_cons]; omega
theorem FWF.put {l : List PF} (h : FWF l) {n d : List UInt8} (hn : nameB n = true) (hd : d.length ≤ 4000) (hlen : (fputL l n d).length ≤ 20) : FWF (fputL l n d) :=
  ⟨hlen, fun g hg => by
    rcases mem_fputL _ _ _ _ hg with rfl | hg
    · exact ⟨hn, hd⟩
    · exact h.each g hg, fputL_sorted n d h.sorted⟩
theorem FWF.filter {l : List PF} (h : FWF l) (p : PF → Bool) : FWF (l.filter p) :=
  ⟨Nat.le_trans (List.length_filter_le _ _) h.few, fun g hg => h.each g (List.mem_filter.1 hg).1, h.sorted.filter _⟩

/-! ### a plan -/
structure PS where
  k : List UInt8
  n : List UInt8
deriving DecidableEq
def kSend : List UInt8 := [115, 101, 110, 100]
def kDrop : List UInt8 := [100, 114, 111, 112]
def kKeep : List UInt8 := [107, 101, 101, 112]
/-- what is next -/
def stepL : List PL → List PL → PS × Nat × Nat
  | [], [] => (⟨[], []⟩, 0, 0)
  | [], t :: _ => (⟨kDrop, t.n⟩, 0, 1)
  | a :: _, [] => (⟨kSend, a.n⟩, 1, 0)
  | a :: _, t :: _ => if ltL a.n t.n = true then (⟨kSend, a.n⟩, 1, 0) else if ltL t.n a.n = true then (⟨kDrop, t.n⟩, 0, 1) else if a = t then (⟨kKeep, a.n⟩, 1, 1) else (⟨kSend, a.n⟩, 1, 1)
def planF : Nat → List PL → List PL → List PS
  | 0, _, _ => []
  | f + 1, a, t => if a = [] ∧ t = [] then [] else (stepL a t).1 :: planF f (a.drop (stepL a t).2.1) (t.drop (stepL a t).2.2)
def planL (a t : List PL) : List PS := planF (a.length + t.length) a t
theorem planF_step {f : Nat} {a t : List PL} (h : ¬ (a = [] ∧ t = [])) : planF (f + 1) a t = (stepL a t).1 :: planF f (a.drop (stepL a t).2.1) (t.drop (stepL a t).2.2) := by rw [planF, if_neg h]
theorem planF_end (f : Nat) : planF f [] [] = [] := by cases f <;> simp [planF]
theorem stepL_bd (a t : List PL) : (stepL a t).2.1 ≤ a.length ∧ (stepL a t).2.2 ≤ t.length ∧ (¬ (a = [] ∧ t = []) → 1 ≤ (stepL a t).2.1 + (stepL a t).2.2) := by
  cases a with
  | nil => cases t <;> simp [stepL]
  | cons x a =>
    cases t with
    | nil => simp [stepL]
    | cons y t =>
      simp only [stepL]
      by_cases h1 : ltL x.n y.n = true
      · rw [if_pos h1]; simp
      · rw [if_neg h1]
        by_cases h2 : ltL y.n x.n = true
        · rw [if_pos h2]; simp
        · rw [if_neg h2]
          by_cases h3 : x = y
          · rw [if_pos h3]; simp
          · rw [if_neg h3]; simp

/-- what a plan says, name by name -/
structure Planned (a t : List PL) (p : List PS) : Prop where
  sorted : p.Pairwise fun x y => ltL x.n y.n = true
  of : ∀ s ∈ p, (s.k = kSend ∧ ∃ x ∈ a, x.n = s.n ∧ x ∉ t) ∨ (s.k = kKeep ∧ ∃ x ∈ a, x.n = s.n ∧ x ∈ t) ∨ (s.k = kDrop ∧ (∃ y ∈ t, y.n = s.n) ∧ ∀ x ∈ a, x.n ≠ s.n)
  all : ∀ x ∈ a, (x ∉ t → (⟨kSend, x.n⟩ : PS) ∈ p) ∧ (x ∈ t → (⟨kKeep, x.n⟩ : PS) ∈ p)
  drop : ∀ y ∈ t, (∀ x ∈ a, x.n ≠ y.n) → (⟨kDrop, y.n⟩ : PS) ∈ p
def Srt (l : List PL) : Prop := l.Pairwise fun a b => ltL a.n b.n = true
theorem Srt.cons {x : PL} {l : List PL} : Srt (x :: l) ↔ (∀ y ∈ l, ltL x.n y.n = true) ∧ Srt l := List.pairwise_cons
theorem Planned.names {a t : List PL} {p : List PS} (h : Planned a t p) (s : PS) (hs : s ∈ p) : (∃ x ∈ a, x.n = s.n) ∨ (∃ y ∈ t, y.n = s.n) := by
  rcases h.of s hs with ⟨_, x, h1, h2, _⟩ | ⟨_, x, h1, h2, _⟩ | ⟨_, h1, _⟩
  · exact .inl ⟨x, h1, h2⟩
  · exact .inl ⟨x, h1, h2⟩
  · exact .inr h1
theorem planF_law (f : Nat) : ∀ (a t : List PL), Srt a → Srt t → a.length + t.length ≤ f → Planned a t (planF f a t) := by
  induction f with
  | zero =>
    intro a t ha ht hf
    obtain rfl : a = [] := List.eq_nil_of_length_eq_zero (by omega)
    obtain rfl : t = [] := List.eq_nil_of_length_eq_zero (by omega)
    exact ⟨by simp [planF], by simp [planF], by simp, by simp⟩
  | succ f ih =>
    intro a t ha ht hf
    by_cases hn : a = [] ∧ t = []
    · obtain ⟨rfl, rfl⟩ := hn
      rw [planF_end]
      exact ⟨by simp, by simp, by simp, by simp⟩
    rw [planF_step hn]
    cases a with
    | nil =>
      cases t with
      | nil => exact absurd ⟨rfl, rfl⟩ hn
      | cons y t =>
        simp only [stepL, List.drop_zero, List.drop_succ_cons]
        have ht' := Srt.cons.1 ht
        have P := ih [] t ha ht'.2 (by simp at hf; simp; omega)
        refine ⟨List.pairwise_cons.2 ⟨fun s hs => ?_, P.sorted⟩, fun s hs => ?_, by simp, fun z hz hz2 => ?_⟩
        · rcases P.names s hs with ⟨x, hx, _⟩ | ⟨z, hz, e⟩
          · cases hx
          · rw [← e]; exact ht'.1 z hz
        · rcases List.mem_cons.1 hs with rfl | hs
          · exact .inr (.inr ⟨rfl, ⟨y, by simp, rfl⟩, by simp⟩)
          · rcases P.of s hs with ⟨_, x, hx, _⟩ | ⟨_, x, hx, _⟩ | ⟨h1, ⟨z, hz, h2⟩, h3⟩
            · cases hx
            · cases hx
            · exact .inr (.inr ⟨h1, ⟨z, by simp [hz], h2⟩, h3⟩)
        · rcases List.mem_cons.1 hz with rfl | hz
          · simp
          · exact List.mem_cons_of_mem _ (P.drop z hz hz2)
    | cons x a =>
      have ha' := Srt.cons.1 ha
      cases t with
      | nil =>
        simp only [stepL, List.drop_zero, List.drop_succ_cons]
        have P := ih a [] ha'.2 ht (by simp at hf; simp; omega)
        refine ⟨List.pairwise_cons.2 ⟨fun s hs => ?_, P.sorted⟩, fun s hs => ?_, fun z hz => ⟨fun _ => ?_, fun h => by cases h⟩, by simp⟩
        · rcases P.names s hs with ⟨z, hz, e⟩ | ⟨z, hz, _⟩
          · rw [← e]; exact ha'.1 z hz
          · cases hz
        · rcases List.mem_cons.1 hs with rfl | hs
          · exact .inl ⟨rfl, x, by simp, rfl, by simp⟩
          · rcases P.of s hs with ⟨h1, z, hz, h2, h3⟩ | ⟨_, z, hz, _, h3⟩ | ⟨_, ⟨z, hz, _⟩, _⟩
            · exact .inl ⟨h1, z, by simp [hz], h2, h3⟩
            · cases h3
            · cases hz
        · rcases List.mem_cons.1 hz with rfl | hz
          · simp
          · exact List.mem_cons_of_mem _ ((P.all z hz).1 (by simp))
      | cons y t =>
        have ht' := Srt.cons.1 ht
        simp only [List.length_cons] at hf
        by_cases h1 : ltL x.n y.n = true
        · -- x alone
          have e : stepL (x :: a) (y :: t) = (⟨kSend, x.n⟩, 1, 0) := by simp [stepL, h1]
          rw [e]
          simp only [List.drop_zero, List.drop_succ_cons]
          have P := ih a (y :: t) ha'.2 ht (by simp; omega)
          have hxt : ∀ z ∈ y :: t, ltL x.n z.n = true := fun z hz => by
            rcases List.mem_cons.1 hz with rfl | hz
            · exact h1
            · exact ltL_trans h1 (ht'.1 z hz)
          refine ⟨List.pairwise_cons.2 ⟨fun s hs => ?_, P.sorted⟩, fun s hs => ?_, fun z hz => ?_, fun z hz hz2 => ?_⟩
          · rcases P.names s hs with ⟨z, hz, e⟩ | ⟨z, hz, e⟩
            · rw [← e]; exact ha'.1 z hz
            · rw [← e]; exact hxt z hz
          · rcases List.mem_cons.1 hs with rfl | hs
            · exact .inl ⟨rfl, x, by simp, rfl, fun h => ltL_ne (hxt x h) rfl⟩
            · rcases P.of s hs with ⟨h1, z, hz, h2, h3⟩ | ⟨h1, z, hz, h2, h3⟩ | ⟨h1, ⟨z, hz, h2⟩, h3⟩
              · exact .inl ⟨h1, z, by simp [hz], h2, h3⟩
              · exact .inr (.inl ⟨h1, z, by simp [hz], h2, h3⟩)
              · refine .inr (.inr ⟨h1, ⟨z, hz, h2⟩, fun w hw => ?_⟩)
                rcases List.mem_cons.1 hw with rfl | hw
                · rw [← h2]; exact ltL_ne (hxt z hz)
                · exact h3 w hw
          · rcases List.mem_cons.1 hz with rfl | hz
            · exact ⟨fun _ => by simp, fun h => absurd rfl (ltL_ne (hxt z h))⟩
            · exact ⟨fun h => List.mem_cons_of_mem _ ((P.all z hz).1 h), fun h => List.mem_cons_of_mem _ ((P.all z hz).2 h)⟩
          · exact List.mem_cons_of_mem _ (P.drop z hz fun w hw => hz2 w (by simp [hw]))
        · by_cases h2 : ltL y.n x.n = true
          · -- y alone
            have e : stepL (x :: a) (y :: t) = (⟨kDrop, y.n⟩, 0, 1) := by simp [stepL, h1, h2]
            rw [e]
            simp only [List.drop_zero, List.drop_succ_cons]
            have P := ih (x :: a) t ha ht'.2 (by simp; omega)
            have hya : ∀ z ∈ x :: a, ltL y.n z.n = true := fun z hz => by
              rcases List.mem_cons.1 hz with rfl | hz
              · exact h2
              · exact ltL_trans h2 (ha'.1 z hz)
            refine ⟨List.pairwise_cons.2 ⟨fun s hs => ?_, P.sorted⟩, fun s hs => ?_, fun z hz => ?_, fun z hz hz2 => ?_⟩
            · rcases P.names s hs with ⟨z, hz, e⟩ | ⟨z, hz, e⟩
              · rw [← e]; exact hya z hz
              · rw [← e]; exact ht'.1 z hz
            · rcases List.mem_cons.1 hs with rfl | hs
              · exact .inr (.inr ⟨rfl, ⟨y, by simp, rfl⟩, fun z hz => fun e => ltL_ne (hya z hz) e.symm⟩)
              · rcases P.of s hs with ⟨h1, z, hz, h2, h3⟩ | ⟨h1, z, hz, h2, h3⟩ | ⟨h1, ⟨z, hz, h2⟩, h3⟩
                · refine .inl ⟨h1, z, hz, h2, fun h => ?_⟩
                  rcases List.mem_cons.1 h with rfl | h
                  · exact ltL_ne (hya z hz) rfl
                  · exact h3 h
                · exact .inr (.inl ⟨h1, z, hz, h2, by simp [h3]⟩)
                · exact .inr (.inr ⟨h1, ⟨z, by simp [hz], h2⟩, h3⟩)
            · refine ⟨fun h => List.mem_cons_of_mem _ ((P.all z hz).1 (fun k => h (by simp [k]))), fun h => ?_⟩
              rcases List.mem_cons.1 h with rfl | h
              · exact absurd rfl (ltL_ne (hya z hz))
              · exact List.mem_cons_of_mem _ ((P.all z hz).2 h)
            · rcases List.mem_cons.1 hz with rfl | hz
              · simp
              · exact List.mem_cons_of_mem _ (P.drop z hz hz2)
          · -- one name
            have hxy : x.n = y.n := by
              rcases ltL_tri x.n y.n with h | h | h
              · exact absurd h h1
              · exact h
              · exact absurd h h2
            have P := ih a t ha'.2 ht'.2 (by omega)
            have hta : ∀ z ∈ t, ltL x.n z.n = true := fun z hz => by rw [hxy]; exact ht'.1 z hz
            have main : ∀ (K : List UInt8), (K = kSend ∧ x ≠ y ∨ K = kKeep ∧ x = y) → Planned (x :: a) (y :: t) (⟨K, x.n⟩ :: planF f a t) := by
              intro K hK
              refine ⟨List.pairwise_cons.2 ⟨fun s hs => ?_, P.sorted⟩, fun s hs => ?_, fun z hz => ?_, fun z hz hz2 => ?_⟩
              · rcases P.names s hs with ⟨z, hz, e⟩ | ⟨z, hz, e⟩
                · rw [← e]; exact ha'.1 z hz
                · rw [← e]; exact hta z hz
              · rcases List.mem_cons.1 hs with rfl | hs
                · rcases hK with ⟨rfl, h⟩ | ⟨rfl, h⟩
                  · refine .inl ⟨rfl, x, by simp, rfl, fun k => ?_⟩
                    rcases List.mem_cons.1 k with k | k
                    · exact h k
                    · exact ltL_ne (hta x k) rfl
                  · exact .inr (.inl ⟨rfl, x, by simp, rfl, by simp [h]⟩)
                · rcases P.of s hs with ⟨h1, z, hz, h2, h3⟩ | ⟨h1, z, hz, h2, h3⟩ | ⟨k1, ⟨z, hz, k2⟩, k3⟩
                  · refine .inl ⟨h1, z, by simp [hz], h2, fun h => ?_⟩
                    rcases List.mem_cons.1 h with rfl | h
                    · exact ltL_ne (ha'.1 z hz) hxy
                    · exact h3 h
                  · exact .inr (.inl ⟨h1, z, by simp [hz], h2, by simp [h3]⟩)
                  · refine .inr (.inr ⟨k1, ⟨z, by simp [hz], k2⟩, fun w hw => ?_⟩)
                    rcases List.mem_cons.1 hw with rfl | hw
                    · rw [← k2]; exact ltL_ne (hta z hz)
                    · exact k3 w hw
              · rcases List.mem_cons.1 hz with rfl | hz
                · rcases hK with ⟨rfl, h⟩ | ⟨rfl, h⟩
                  · refine ⟨fun _ => by simp, fun k => ?_⟩
                    rcases List.mem_cons.1 k with k | k
                    · exact absurd k h
                    · exact absurd rfl (ltL_ne (hta z k))
                  · exact ⟨fun k => absurd (by simp [h]) k, fun _ => by simp⟩
                · refine ⟨fun h => List.mem_cons_of_mem _ ((P.all z hz).1 (fun k => h (by simp [k]))), fun h => ?_⟩
                  rcases List.mem_cons.1 h with rfl | h
                  · exact absurd hxy (ltL_ne (ha'.1 z hz))
                  · exact List.mem_cons_of_mem _ ((P.all z hz).2 h)
              · rcases List.mem_cons.1 hz with rfl | hz
                · exact absurd hxy (hz2 x (by simp))
                · exact List.mem_cons_of_mem _ (P.drop z hz fun w hw => hz2 w (by simp [hw]))
            by_cases hEq : x = y
            · have e : stepL (x :: a) (y :: t) = (⟨kKeep, x.n⟩, 1, 1) := by simp only [stepL]; rw [if_neg h1, if_neg h2, if_pos hEq]
              rw [e]
              exact main _ (.inr ⟨rfl, hEq⟩)
            · have e : stepL (x :: a) (y :: t) = (⟨kSend, x.n⟩, 1, 1) := by simp only [stepL]; rw [if_neg h1, if_neg h2, if_neg hEq]
              rw [e]
              exact main _ (.inl ⟨rfl, hEq⟩)
theorem planL_law {a t : List PL} (ha : Srt a) (ht : Srt t) : Planned a t (planL a t) := planF_law _ a t ha ht (Nat.le_refl _)
end Go.Proofs.YtppkeophochgiaaGreatDoor
/- The document's PutOf, in plain words. -/
namespace Go.Proofs.YtppkeophochgiaaGreatDoor
open Go.RowKit
set_option linter.unusedVariables false

end Go.Proofs.YtppkeophochgiaaGreatDoor
/- The document's plan in plain words, and that it is the package's. No program is in sight. -/
namespace Go.Proofs.YtppkeophochgiaaGreatDoor
open Go.RowKit
set_option linter.unusedVariables false

end Go.Proofs.YtppkeophochgiaaGreatDoor
/- Contracts of the package sum, and of the reference's sums of all. -/
namespace Go.Proofs.YtppkeophochgiaaGreatDoor
open Go.RowKit

theorem step_any (c : Nat) (w : World) (hc : c < 4294967296) :
    Calls Tryz.prog 197 #[.int .u32 c] w fun e w' => e = .returned (.int .u32 (cs c)) ∧ w = w' := by
  go_enter Tryz.func197, Tryz.ntmps197
  go_wp2
  go_ret
  exact ⟨ret_int (cs_walk c hc), rfl⟩

theorem more_any (c : Nat) (s : ByteArray) (w : World) (hc : c < 4294967296) (hs : s.size ≤ 100000) :
    Calls Tryz.prog 163 #[.int .u32 c, .string s] w fun e w' => e = .returned (.int .u32 (cmore c s.data.toList)) ∧ w = w' := by
  have hl : s.data.toList.length = s.size := by simp
  obtain ⟨c1, hc1⟩ : ∃ c1, c1 = c ^^^ 4294967295 := ⟨_, rfl⟩
  have hc1lt : c1 < 4294967296 := by rw [hc1]; exact xor_lt32 hc (by omega)
  have hn : bits .xor .u32 IntKind.u32.max (c : Int) = (c1 : Int) := by rw [hc1]; exact not_walk c hc
  have HC := Lib.hid hc1
  have HL := Lib.hid hl
  clear hc1 hl
  go_enter Tryz.func163, Tryz.ntmps163
  go_wp2
  clear hn
  go_loop [0, 5, 10] (fun c _ i => ∃ k : Nat, k ≤ s.size ∧ i = .int .i64 k ∧ c = .int .u32 (craw c1 (s.data.toList.take k))) (fun _ _ i => s.size - (intOf i).toNat)
  case atStart => exact ⟨0, Nat.zero_le _, rfl, by simp [craw]⟩
  case round =>
    obtain ⟨k, hk, rfl, rfl⟩ := hrel
    have hx := craw_lt (s.data.toList.take k) hc1lt
    by_cases hlt : k < s.size
    · have hts := take_snoc s k hlt
      have hnext : craw c1 (s.data.toList.take (k + 1)) = citer 8 (craw c1 (s.data.toList.take k) ^^^ s[k].toNat) := by rw [hts, craw_snoc, cf]
      have HN := Lib.hid hnext
      clear hts hnext
      have hy := xor_lt32 hx (byte_lt s[k])
      have hb := u32_xor_nat (craw c1 (s.data.toList.take k)) s[k].toNat hx (byte_lt _)
      generalize craw c1 (s.data.toList.take k) = x at *
      generalize hyy : x ^^^ s[k].toNat = y at *
      clear hyy
      have hcb : s[k].toNat < 256 := s[k].toNat_lt
      go_wp2
      clear hb
      go_loop [0, 19] (fun c i => ∃ j : Nat, j ≤ 8 ∧ i = .int .i64 j ∧ c = .int .u32 (citer j y)) (fun _ i => 8 - (intOf i).toNat)
      case atStart => exact ⟨0, by omega, rfl, by simp [citer]⟩
      case round =>
        obtain ⟨j, hj, rfl, rfl⟩ := hrel
        have hz := citer_lt j hy
        by_cases hlt8 : j < 8
        · have hs8 := Lib.hid (citer_succ j y)
          go_wp2_with (go_at_call 197; refine (step_any _ _ hz).mono ?_; rintro e w' ⟨rfl, rfl⟩)
          go_round
          case rel => exact ⟨j + 1, by omega, by go_num, by rw [hs8.out]⟩
          case measure => simp [intOf]; omega
        · have h8 : j = 8 := by omega
          subst h8
          go_wp2
          go_round
          case rel => exact ⟨k + 1, by omega, by go_num, by rw [HN.out]⟩
          case measure => simp [intOf]; omega
    · have hks : k = s.size := by omega
      subst hks
      have hn2 := not_walk _ hx
      have he : s.data.toList.take s.size = s.data.toList := List.take_of_length_le (by rw [HL.out]; omega)
      rw [he] at hn2 ⊢
      have hfin : craw c1 s.data.toList ^^^ 4294967295 = cmore c s.data.toList := by rw [HC.out, cmore]
      rw [hfin] at hn2
      clear hfin he
      generalize craw c1 s.data.toList = x at *
      go_wp2
      go_ret
      exact ⟨rfl, rfl⟩

theorem sum_any (s : ByteArray) (w : World) (hs : s.size ≤ 100000) :
    Calls Tryz.prog 121 #[.string s] w fun e w' => e = .returned (.int .u32 (csum s.data.toList)) ∧ w = w' := by
  go_enter Tryz.func121, Tryz.ntmps121
  go_wp2_with fail
  refine (more_any 0 s w (by omega) hs).mono ?_
  rintro e w' ⟨rfl, rfl⟩
  go_wp2_with fail
  go_ret
  exact ⟨ret_int (by rw [csum]), rfl⟩

end Go.Proofs.YtppkeophochgiaaGreatDoor
