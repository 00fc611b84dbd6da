/- Plain laws: blocks that are well; a signature's text. No program is in sight here. -/
import Derived.Test.YtkjcclbnbbbfaaaGreatDoorBlkPlain
namespace Go.Proofs.YtkjcclbnbbbfaaaGreatDoor
open Go.RowKit

theorem isEmpty_drop (l : List Blk) (k : Nat) (h : k < l.length) : (l.drop (k + 1)).isEmpty = decide (l.length = k + 1) := by
  rw [Bool.eq_iff_iff]; simp; omega
def badB (b : Blk) (size : Int) (last : Bool) : Prop := b.N < 1 ∨ size < b.N ∨ b.N < size ∧ last = false ∨ b.W < 0 ∨ 4294967296 ≤ b.W
instance (b : Blk) (size : Int) (last : Bool) : Decidable (badB b size last) := by unfold badB; infer_instance
def chkA (size : Int) : List Blk → Nat → Int → Nat × Int
  | [], _, _ => (0, -1)
  | b :: l, i, all => if badB b size l.isEmpty then (2, i) else if 4000 < all + b.N then (8, i) else chkA size l (i + 1) (all + b.N)
def chk (l : List Blk) (size : Int) : Nat × Int := if 1 ≤ size ∧ size ≤ 64 then chkA size l 0 0 else (2, -1)
theorem chkA_bad {size : Int} {l : List Blk} {k : Nat} {all : Int} (h : k < l.length) (hb : badB l[k] size (decide (l.length = k + 1))) : chkA size (l.drop k) k all = (2, (k : Int)) := by
  rw [List.drop_eq_getElem_cons h]
  have : (l.drop (k + 1)).isEmpty = decide (l.length = k + 1) := isEmpty_drop l k h
  rw [chkA, this, if_pos hb]
theorem chkA_full {size : Int} {l : List Blk} {k : Nat} {all : Int} (h : k < l.length) (hb : ¬ badB l[k] size (decide (l.length = k + 1))) (hf : 4000 < all + l[k].N) : chkA size (l.drop k) k all = (8, (k : Int)) := by
  rw [List.drop_eq_getElem_cons h]
  have : (l.drop (k + 1)).isEmpty = decide (l.length = k + 1) := isEmpty_drop l k h
  rw [chkA, this, if_neg hb, if_pos hf]
theorem chkA_next {size : Int} {l : List Blk} {k : Nat} {all : Int} (h : k < l.length) (hb : ¬ badB l[k] size (decide (l.length = k + 1))) (hf : ¬ 4000 < all + l[k].N) : chkA size (l.drop k) k all = chkA size (l.drop (k + 1)) (k + 1) (all + l[k].N) := by
  rw [List.drop_eq_getElem_cons h]
  have : (l.drop (k + 1)).isEmpty = decide (l.length = k + 1) := isEmpty_drop l k h
  rw [chkA, this, if_neg hb, if_neg hf]
theorem chkA_end {size : Int} {l : List Blk} {k : Nat} {all : Int} (h : l.length ≤ k) : chkA size (l.drop k) k all = (0, -1) := by
  rw [List.drop_eq_nil_of_le h, chkA]
theorem chk_no {l : List Blk} {size : Int} (h : ¬ (1 ≤ size ∧ size ≤ 64)) : chk l size = (2, -1) := by unfold chk; rw [if_neg h]
theorem chk_yes {l : List Blk} {size : Int} (h : 1 ≤ size ∧ size ≤ 64) : chk l size = chkA size l 0 0 := by unfold chk; rw [if_pos h]
theorem chk_code (l : List Blk) (size : Int) : (chk l size).1 = 0 ∨ (chk l size).1 = 2 ∨ (chk l size).1 = 8 := by
  unfold chk
  split
  · have H : ∀ (l : List Blk) (i : Nat) (all : Int), (chkA size l i all).1 = 0 ∨ (chkA size l i all).1 = 2 ∨ (chkA size l i all).1 = 8 := by
     intro l
     induction l with
     | nil => intro i all; simp [chkA]
     | cons b l ih =>
       intro i all
       rw [chkA]
       split
       · simp
       · split
         · simp
         · exact ih _ _
    exact H l 0 0
  · simp
/-- what a list that is well holds -/
theorem chkA_ok (size : Int) : ∀ (l : List Blk) (i : Nat) (all : Int), (chkA size l i all).1 = 0 → all + l.length ≤ 4000 ∨ l = [] := by
  intro l
  induction l with
  | nil => intro i all _; exact .inr rfl
  | cons b l ih =>
    intro i all h
    rw [chkA] at h
    split at h
    · simp at h
    · rename_i hb
      split at h
      · simp at h
      · rename_i hf
        left
        have hN : 1 ≤ b.N := by unfold badB at hb; omega
        rcases ih _ _ h with h1 | h1
        · simp only [List.length_cons]; omega
        · subst h1; simp; omega
theorem chkA_each (size : Int) : ∀ (l : List Blk) (i : Nat) (all : Int), (chkA size l i all).1 = 0 → ∀ b ∈ l, 1 ≤ b.N ∧ b.N ≤ size ∧ 0 ≤ b.W ∧ b.W < 4294967296 := by
  intro l
  induction l with
  | nil => intro i all _ b hb; simp at hb
  | cons a l ih =>
    intro i all h b hb
    rw [chkA] at h
    split at h
    · simp at h
    · rename_i hn
      split at h
      · simp at h
      · rcases List.mem_cons.1 hb with rfl | hb
        · unfold badB at hn; omega
        · exact ih _ _ h b hb
theorem chk_ok {l : List Blk} {size : Int} (h : (chk l size).1 = 0) : 1 ≤ size ∧ size ≤ 64 ∧ l.length ≤ 4000 ∧ ∀ b ∈ l, 1 ≤ b.N ∧ b.N ≤ size ∧ 0 ≤ b.W ∧ b.W < 4294967296 := by
  by_cases hs : 1 ≤ size ∧ size ≤ 64
  · rw [chk_yes hs] at h
    refine ⟨hs.1, hs.2, ?_, chkA_each size l 0 0 h⟩
    rcases chkA_ok size l 0 0 h with h1 | h1
    · omega
    · subst h1; simp
  · rw [chk_no hs] at h; simp at h
attribute [irreducible] chkA chk
end Go.Proofs.YtkjcclbnbbbfaaaGreatDoor
