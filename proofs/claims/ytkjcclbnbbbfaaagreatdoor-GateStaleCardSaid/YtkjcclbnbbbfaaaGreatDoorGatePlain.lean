/- Plain laws of gates: the package's map in any order, the document's list by names; their texts. No program is in sight. -/
import Derived.Test.YtkjcclbnbbbfaaaGreatDoorGateMap
import Derived.Test.YtkjcclbnbbbfaaaGreatDoorFilPlain
import Derived.Test.YtkjcclbnbbbfaaaGreatDoorTapPlain
import Derived.Sort.Walk0
import Derived.Sort.KeysCollected
namespace Go.Proofs.YtkjcclbnbbbfaaaGreatDoor
open Go.RowKit
set_option linter.unusedVariables false

/-- the document's way to set a name's epoch: by names -/
def gset : GM → List UInt8 → Nat → GM
  | [], k, v => [(k, v)]
  | p :: l, k, v => if ltL p.1 k = true then p :: gset l k v else if p.1 = k then (k, v) :: l else (k, v) :: p :: l
def GSrt (l : GM) : Prop := l.Pairwise fun a b => ltL a.1 b.1 = true
theorem GSrt.nodup {l : GM} (h : GSrt l) : (l.map Prod.fst).Nodup := by
  unfold List.Nodup
  rw [List.pairwise_map]
  exact List.Pairwise.imp (fun h => ltL_ne h) h
theorem gset_mem {l : GM} {k : List UInt8} {v : Nat} {p : List UInt8 × Nat} (hp : p ∈ gset l k v) : p = (k, v) ∨ p ∈ l := by
  induction l with
  | nil => simp [gset] at hp; exact .inl hp
  | cons q l ih =>
    unfold gset at hp
    split at hp
    · rcases List.mem_cons.1 hp with rfl | hp
      · exact .inr (by simp)
      · exact (ih hp).imp id (fun h => by simp [h])
    · split at hp
      · rcases List.mem_cons.1 hp with rfl | hp
        · exact .inl rfl
        · exact .inr (by simp [hp])
      · rcases List.mem_cons.1 hp with rfl | hp
        · exact .inl rfl
        · exact .inr hp
theorem gset_srt {l : GM} (h : GSrt l) (k : List UInt8) (v : Nat) : GSrt (gset l k v) := by
  induction l with
  | nil => exact List.pairwise_singleton _ _
  | cons q l ih =>
    obtain ⟨h1, h2⟩ := List.pairwise_cons.1 h
    unfold gset
    split
    · rename_i hq
      refine List.pairwise_cons.2 ⟨fun p hp => ?_, ih h2⟩
      rcases gset_mem hp with rfl | hp
      · exact hq
      · exact h1 p hp
    · rename_i hq
      split
      · rename_i he
        refine List.pairwise_cons.2 ⟨fun p hp => ?_, h2⟩
        rw [← he]
        exact h1 p hp
      · rename_i he
        have hk : ltL k q.1 = true := by
          rcases ltL_tri q.1 k with h | h | h
          · exact absurd h hq
          · exact absurd h he
          · exact h
        refine List.pairwise_cons.2 ⟨fun p hp => ?_, h⟩
        rcases List.mem_cons.1 hp with rfl | hp
        · exact hk
        · exact ltL_trans hk (h1 p hp)
theorem gput_new {m : GM} {k : List UInt8} (h : k ∉ m.map Prod.fst) (v : Nat) : gput m k v = m ++ [(k, v)] := by
  induction m with
  | nil => rfl
  | cons p m ih =>
    rw [List.map_cons, List.mem_cons, not_or] at h
    unfold gput
    rw [if_neg (fun e => h.1 e.symm), ih h.2]; rfl
theorem gput_perm {m : GM} (h : (m.map Prod.fst).Nodup) (k : List UInt8) (v : Nat) : (gput m k v).Perm ((k, v) :: m.filter fun p => p.1 != k) := by
  induction m with
  | nil => exact List.Perm.refl _
  | cons p m ih =>
    rw [List.map_cons, List.nodup_cons] at h
    unfold gput
    by_cases hp : p.1 = k
    · rw [if_pos hp]
      have e : (p :: m).filter (fun p => p.1 != k) = m := by
        rw [List.filter_cons_of_neg (by simp [hp])]
        refine List.filter_eq_self.2 fun q hq => ?_
        have : q.1 ≠ k := fun e => h.1 (by rw [hp, ← e]; exact List.mem_map_of_mem hq)
        simpa using this
      rw [e]
    · rw [if_neg hp, List.filter_cons_of_pos (by simpa using hp)]
      exact ((ih h.2).cons p).trans (List.Perm.swap _ _ _)
theorem gset_perm {l : GM} (h : GSrt l) (k : List UInt8) (v : Nat) : (gset l k v).Perm ((k, v) :: l.filter fun p => p.1 != k) := by
  induction l with
  | nil => exact List.Perm.refl _
  | cons p l ih =>
    obtain ⟨h1, h2⟩ := List.pairwise_cons.1 h
    unfold gset
    split
    · rename_i hq
      rw [List.filter_cons_of_pos (by simpa using ltL_ne hq)]
      exact ((ih h2).cons p).trans (List.Perm.swap _ _ _)
    · rename_i hq
      have hrest : ∀ (x : List UInt8), (∀ q ∈ l, ltL x q.1 = true) → l.filter (fun p => p.1 != x) = l := fun x hx => List.filter_eq_self.2 fun q hq => by simpa using (ltL_ne (hx q hq)).symm
      split
      · rename_i he
        rw [List.filter_cons_of_neg (by simp [he]), hrest k (by rw [← he]; exact h1)]
      · rename_i he
        have hk : ltL k p.1 = true := by
          rcases ltL_tri p.1 k with h | h | h
          · exact absurd h hq
          · exact absurd h he
          · exact h
        rw [List.filter_cons_of_pos (by simpa using he), hrest k (fun q hq => ltL_trans hk (h1 q hq))]
theorem perm_nodup {m l : GM} (h : m.Perm l) (hl : (l.map Prod.fst).Nodup) : (m.map Prod.fst).Nodup := (h.map Prod.fst).nodup_iff.2 hl
/-- the two ways to set an epoch agree -/
theorem set_perm {m l : GM} (h : m.Perm l) (hs : GSrt l) (k : List UInt8) (v : Nat) : (gput m k v).Perm (gset l k v) :=
  (gput_perm (perm_nodup h hs.nodup) k v).trans ((((h.filter _).cons _)).trans (gset_perm hs k v).symm)
theorem glk_perm {m l : GM} (h : m.Perm l) (hl : (l.map Prod.fst).Nodup) (k : List UInt8) : glk m k = glk l k := by
  have hm := perm_nodup h hl
  by_cases hk : k ∈ l.map Prod.fst
  · obtain ⟨p, hp, rfl⟩ := List.mem_map.1 hk
    rw [glk_mem hl hp, glk_mem hm (h.mem_iff.2 hp)]
  · have hz : ∀ (x : GM), k ∉ x.map Prod.fst → glk x k = 0 := by
      intro x hx
      induction x with
      | nil => rfl
      | cons q x ih =>
        rw [List.map_cons, List.mem_cons, not_or] at hx
        unfold glk
        rw [if_neg (fun e => hx.1 e.symm)]
        exact ih hx.2
    rw [hz l hk, hz m (fun h2 => hk ((h.map Prod.fst).mem_iff.1 h2))]
theorem ghas_perm {m l : GM} (h : m.Perm l) (k : List UInt8) : ghas m k = ghas l k := by
  rw [Bool.eq_iff_iff, ghas_mem, ghas_mem]
  exact (h.map Prod.fst).mem_iff

/-! ### what a gate answers -/
def mayC (m : GM) (k : List UInt8) : Nat := if nameB k = false then 5 else if glk m k = 0 ∧ 20 ≤ m.length then 8 else 0
def opC' (m : GM) (k : List UInt8) : Nat := if mayC m k ≠ 0 then mayC m k else if 2147483648 ≤ glk m k then 2 else 0
def opN (m : GM) (k : List UInt8) : Nat := if opC' m k = 0 then glk m k + 1 else 0
def adC (m : GM) (k : List UInt8) (n : Int) : Nat := if glk m k = 0 then 6 else if (glk m k : Int) = n then 0 else 11
def stC (m : GM) (k : List UInt8) (n : Int) : Nat := if mayC m k ≠ 0 then mayC m k else if n < 1 ∨ 2147483648 < n then 2 else 0
def stN (m : GM) (k : List UInt8) (n : Int) : Nat := if (glk m k : Int) < n then n.toNat else glk m k

def opM (m : GM) (k : List UInt8) : GM := if opC' m k = 0 then gput m k (glk m k + 1) else m
def stM (m : GM) (k : List UInt8) (n : Int) : GM := if stC m k n = 0 then gput m k (stN m k n) else m
theorem mayC_name {m : GM} {k : List UInt8} (h : nameB k = false) : mayC m k = 5 := by unfold mayC; rw [if_pos h]
theorem mayC_full {m : GM} {k : List UInt8} (h : nameB k = true) (h2 : glk m k = 0 ∧ 20 ≤ m.length) : mayC m k = 8 := by unfold mayC; rw [if_neg (by simp [h]), if_pos h2]
theorem mayC_ok {m : GM} {k : List UInt8} (h : nameB k = true) (h2 : ¬ (glk m k = 0 ∧ 20 ≤ m.length)) : mayC m k = 0 := by unfold mayC; rw [if_neg (by simp [h]), if_neg h2]
theorem op_may {m : GM} {k : List UInt8} (h : mayC m k ≠ 0) : opC' m k = mayC m k ∧ opN m k = 0 ∧ opM m k = m := by
  have e : opC' m k = mayC m k := by unfold opC'; rw [if_pos h]
  exact ⟨e, by unfold opN; rw [if_neg (by rw [e]; exact h)], by unfold opM; rw [if_neg (by rw [e]; exact h)]⟩
theorem op_top {m : GM} {k : List UInt8} (h : mayC m k = 0) (h2 : 2147483648 ≤ glk m k) : opC' m k = 2 ∧ opN m k = 0 ∧ opM m k = m := by
  have e : opC' m k = 2 := by unfold opC'; rw [if_neg (by simp [h]), if_pos h2]
  exact ⟨e, by unfold opN; rw [if_neg (by rw [e]; decide)], by unfold opM; rw [if_neg (by rw [e]; decide)]⟩
theorem op_ok {m : GM} {k : List UInt8} (h : mayC m k = 0) (h2 : ¬ 2147483648 ≤ glk m k) : opC' m k = 0 ∧ opN m k = glk m k + 1 ∧ opM m k = gput m k (glk m k + 1) := by
  have e : opC' m k = 0 := by unfold opC'; rw [if_neg (by simp [h]), if_neg h2]
  exact ⟨e, by unfold opN; rw [if_pos e], by unfold opM; rw [if_pos e]⟩
theorem st_may {m : GM} {k : List UInt8} {n : Int} (h : mayC m k ≠ 0) : stC m k n = mayC m k ∧ stM m k n = m := by
  have e : stC m k n = mayC m k := by unfold stC; rw [if_pos h]
  exact ⟨e, by unfold stM; rw [if_neg (by rw [e]; exact h)]⟩
theorem st_bd {m : GM} {k : List UInt8} {n : Int} (h : mayC m k = 0) (h2 : n < 1 ∨ 2147483648 < n) : stC m k n = 2 ∧ stM m k n = m := by
  have e : stC m k n = 2 := by unfold stC; rw [if_neg (by simp [h]), if_pos h2]
  exact ⟨e, by unfold stM; rw [if_neg (by rw [e]; decide)]⟩
theorem st_ok {m : GM} {k : List UInt8} {n : Int} (h : mayC m k = 0) (h2 : ¬ (n < 1 ∨ 2147483648 < n)) : stC m k n = 0 ∧ stM m k n = gput m k (stN m k n) := by
  have e : stC m k n = 0 := by unfold stC; rw [if_neg (by simp [h]), if_neg h2]
  exact ⟨e, by unfold stM; rw [if_pos e]⟩
theorem mayC_perm {m l : GM} (h : m.Perm l) (hl : (l.map Prod.fst).Nodup) (k : List UInt8) : mayC m k = mayC l k := by
  unfold mayC
  rw [glk_perm h hl, h.length_eq]
theorem opC_perm {m l : GM} (h : m.Perm l) (hl : (l.map Prod.fst).Nodup) (k : List UInt8) : opC' m k = opC' l k ∧ opN m k = opN l k := by
  have e : opC' m k = opC' l k := by unfold opC'; rw [mayC_perm h hl, glk_perm h hl]
  exact ⟨e, by unfold opN; rw [e, glk_perm h hl]⟩
theorem stC_perm {m l : GM} (h : m.Perm l) (hl : (l.map Prod.fst).Nodup) (k : List UInt8) (n : Int) : stC m k n = stC l k n ∧ stN m k n = stN l k n ∧ adC m k n = adC l k n := by
  refine ⟨?_, ?_, ?_⟩
  · unfold stC; rw [mayC_perm h hl]
  · unfold stN; rw [glk_perm h hl]
  · unfold adC; rw [glk_perm h hl]

/-! ### texts -/
def lineG (p : List UInt8 × Nat) : List UInt8 := p.1 ++ 32 :: (Lib.decDigits p.2 ++ [10])
def gtext (l : GM) : List UInt8 := l.flatMap lineG
/-- a gate that can be -/
structure GWF (l : GM) : Prop where
  srt : GSrt l
  nm : ∀ p ∈ l, nameB p.1 = true
  ep : ∀ p ∈ l, 1 ≤ p.2 ∧ p.2 ≤ 2147483648
  few : l.length ≤ 20
theorem GWF.nil : GWF [] := ⟨List.Pairwise.nil, by simp, by simp, by simp⟩
theorem nch_gt {c : UInt8} (h : nchB c = true) : 32 < c := by
  unfold nchB at h
  simp only [Bool.or_eq_true, Bool.and_eq_true, decide_eq_true_eq, beq_iff_eq] at h
  rcases h with ((⟨h, _⟩ | ⟨h, _⟩) | h) | h
  · exact Nat.lt_of_lt_of_le (by decide : (32 : UInt8).toNat < (97 : UInt8).toNat) h
  · exact Nat.lt_of_lt_of_le (by decide : (32 : UInt8).toNat < (48 : UInt8).toNat) h
  · rw [h]; decide
  · rw [h]; decide
/-- lines are as their names are -/
theorem line_lt : ∀ (a b x y : List UInt8), a.all nchB = true → b.all nchB = true → ltL a b = true → ltL (a ++ 32 :: x) (b ++ 32 :: y) = true := by
  intro a
  induction a with
  | nil =>
    intro b x y _ hb h
    cases b with
    | nil => rw [ltL_nil_right] at h; cases h
    | cons c b =>
      rw [List.all_cons, Bool.and_eq_true] at hb
      rw [List.nil_append, List.cons_append, ltL_cons]
      have := nch_gt hb.1
      simp [this]
  | cons c a ih =>
    intro b x y ha hb h
    cases b with
    | nil => rw [ltL_nil_right] at h; cases h
    | cons d b =>
      rw [List.all_cons, Bool.and_eq_true] at ha hb
      rw [ltL_cons] at h
      rw [List.cons_append, List.cons_append, ltL_cons]
      rw [Bool.or_eq_true] at h ⊢
      rcases h with h | h
      · exact .inl h
      · rw [Bool.and_eq_true] at h ⊢
        exact .inr ⟨h.1, ih b x y ha.2 hb.2 h.2⟩
theorem lines_srt {l : GM} (h : GWF l) : (l.map lineG).Pairwise fun a b => ltL a b = true := by
  rw [List.pairwise_map]
  refine List.Pairwise.imp_of_mem (fun {a b} ha hb hab => ?_) h.srt
  exact line_lt a.1 b.1 _ _ ((nameB_iff _).1 (h.nm a ha)).2.2 ((nameB_iff _).1 (h.nm b hb)).2.2 hab
theorem ltL_lt {a b : List UInt8} (h : ltL a b = true) : a < b := by
  unfold ltL at h
  rw [bytesLess_eq] at h
  exact of_decide_eq_true h
/-- the sorted lines of a gate in any order -/
theorem sorted_lines {m l : GM} (hp : m.Perm l) (h : GWF l) : (m.map lineG).mergeSort leB = l.map lineG := by
  rw [mergeSort_of_perm (hp.map lineG)]
  refine List.mergeSort_of_pairwise (List.Pairwise.imp (fun {a b} hab => ?_) (lines_srt h))
  have := ltL_lt hab
  simp only [decide_eq_true_eq]
  exact List.le_of_lt this
theorem join_nil (l : List (List UInt8)) : l.flatten = (l.map id).flatten := by simp
theorem gtext_is (l : GM) : gtext l = (l.map lineG).flatten := by unfold gtext; rw [List.flatMap_def]
end Go.Proofs.YtkjcclbnbbbfaaaGreatDoor
