/- Texts of one proof, one behind the other: ChkPlain, OpPlain. -/
import Derived.Test.YtppkeophochgiaaGreatDoorB01
/- Plain laws: blocks that are well; a signature's text. No program is in sight here. -/
namespace Go.Proofs.YtppkeophochgiaaGreatDoor
open Go.RowKit

theorem isEmpty_drop (l : List Blk) (k : Nat) (h : k < l.length) : (l.drop (k + 1)).isEmpty = decide (l.length = k + 1) := by
  rw [Bool.eq_iff_iff]; simp; omega
def badB (b : Blk) (size : Int) (last : Bool) : Prop := b.N < 1 ∨ size < b.N ∨ b.N < size ∧ last = false ∨ b.W < 0 ∨ 4294967296 ≤ b.W
instance (b : Blk) (size : Int) (last : Bool) : Decidable (badB b size last) := by unfold badB; infer_instance
def chkA (size : Int) : List Blk → Nat → Int → Nat × Int
  | [], _, _ => (0, -1)
  | b :: l, i, all => if badB b size l.isEmpty then (2, i) else if 4000 < all + b.N then (8, i) else chkA size l (i + 1) (all + b.N)
def chk (l : List Blk) (size : Int) : Nat × Int := if 1 ≤ size ∧ size ≤ 64 then chkA size l 0 0 else (2, -1)
theorem chkA_bad {size : Int} {l : List Blk} {k : Nat} {all : Int} (h : k < l.length) (hb : badB l[k] size (decide (l.length = k + 1))) : chkA size (l.drop k) k all = (2, (k : Int)) := by
  rw [List.drop_eq_getElem_cons h]
  have : (l.drop (k + 1)).isEmpty = decide (l.length = k + 1) := isEmpty_drop l k h
  rw [chkA, this, if_pos hb]
theorem chkA_full {size : Int} {l : List Blk} {k : Nat} {all : Int} (h : k < l.length) (hb : ¬ badB l[k] size (decide (l.length = k + 1))) (hf : 4000 < all + l[k].N) : chkA size (l.drop k) k all = (8, (k : Int)) := by
  rw [List.drop_eq_getElem_cons h]
  have : (l.drop (k + 1)).isEmpty = decide (l.length = k + 1) := isEmpty_drop l k h
  rw [chkA, this, if_neg hb, if_pos hf]
theorem chkA_next {size : Int} {l : List Blk} {k : Nat} {all : Int} (h : k < l.length) (hb : ¬ badB l[k] size (decide (l.length = k + 1))) (hf : ¬ 4000 < all + l[k].N) : chkA size (l.drop k) k all = chkA size (l.drop (k + 1)) (k + 1) (all + l[k].N) := by
  rw [List.drop_eq_getElem_cons h]
  have : (l.drop (k + 1)).isEmpty = decide (l.length = k + 1) := isEmpty_drop l k h
  rw [chkA, this, if_neg hb, if_neg hf]
theorem chkA_end {size : Int} {l : List Blk} {k : Nat} {all : Int} (h : l.length ≤ k) : chkA size (l.drop k) k all = (0, -1) := by
  rw [List.drop_eq_nil_of_le h, chkA]
theorem chk_no {l : List Blk} {size : Int} (h : ¬ (1 ≤ size ∧ size ≤ 64)) : chk l size = (2, -1) := by unfold chk; rw [if_neg h]
theorem chk_yes {l : List Blk} {size : Int} (h : 1 ≤ size ∧ size ≤ 64) : chk l size = chkA size l 0 0 := by unfold chk; rw [if_pos h]
/-- what a list that is well holds -/
theorem chkA_ok (size : Int) : ∀ (l : List Blk) (i : Nat) (all : Int), (chkA size l i all).1 = 0 → all + l.length ≤ 4000 ∨ l = [] := by
  intro l
  induction l with
  | nil => intro i all _; exact .inr rfl
  | cons b l ih =>
    intro i all h
    rw [chkA] at h
    split at h
    · simp at h
    · rename_i hb
      split at h
      · simp at h
      · rename_i hf
        left
        have hN : 1 ≤ b.N := by unfold badB at hb; omega
        rcases ih _ _ h with h1 | h1
        · simp only [List.length_cons]; omega
        · subst h1; simp; omega
theorem chkA_each (size : Int) : ∀ (l : List Blk) (i : Nat) (all : Int), (chkA size l i all).1 = 0 → ∀ b ∈ l, 1 ≤ b.N ∧ b.N ≤ size ∧ 0 ≤ b.W ∧ b.W < 4294967296 := by
  intro l
  induction l with
  | nil => intro i all _ b hb; simp at hb
  | cons a l ih =>
    intro i all h b hb
    rw [chkA] at h
    split at h
    · simp at h
    · rename_i hn
      split at h
      · simp at h
      · rcases List.mem_cons.1 hb with rfl | hb
        · unfold badB at hn; omega
        · exact ih _ _ h b hb
theorem chk_ok {l : List Blk} {size : Int} (h : (chk l size).1 = 0) : 1 ≤ size ∧ size ≤ 64 ∧ l.length ≤ 4000 ∧ ∀ b ∈ l, 1 ≤ b.N ∧ b.N ≤ size ∧ 0 ≤ b.W ∧ b.W < 4294967296 := by
  by_cases hs : 1 ≤ size ∧ size ≤ 64
  · rw [chk_yes hs] at h
    refine ⟨hs.1, hs.2, ?_, chkA_each size l 0 0 h⟩
    rcases chkA_ok size l 0 0 h with h1 | h1
    · omega
    · subst h1; simp
  · rw [chk_no hs] at h; simp at h
attribute [irreducible] chkA chk
end Go.Proofs.YtppkeophochgiaaGreatDoor
/- Plain laws: ops of a delta; what they put together. No program is in sight here. -/
namespace Go.Proofs.YtppkeophochgiaaGreatDoor
open Go.RowKit

/-- an op: its kind, place, number, data -/
structure POp where
  kind : List UInt8
  a : Int
  n : Int
  data : List UInt8
deriving DecidableEq
def POp.cells : Nat := 4
def POp.vals (o : POp) : List Value := [.string (bs o.kind), .int .i64 o.a, .int .i64 o.n, .string (bs o.data)]
def POp.ok (o : POp) : Prop := o.kind.length ≤ maxLen ∧ o.data.length ≤ maxLen ∧ (Lit.int .i64 o.a).wf = true ∧ (Lit.int .i64 o.n).wf = true
theorem POp.vals_len (o : POp) : o.vals.length = 4 := rfl
def ocells (l : List POp) : List Value := l.flatMap POp.vals
theorem ocells_len (l : List POp) : (ocells l).length = l.length * 4 := flat_len _ 4 POp.vals_len l
theorem ocells_get (l : List POp) (i : Nat) (hi : i < l.length) : (ocells l)[i * 4]? = some (.string (bs l[i].kind)) ∧ (ocells l)[i * 4 + 1]? = some (.int .i64 l[i].a) ∧ (ocells l)[i * 4 + 2]? = some (.int .i64 l[i].n) ∧ (ocells l)[i * 4 + 3]? = some (.string (bs l[i].data)) :=
  ⟨flat_get _ 4 POp.vals_len l i 0 hi (by omega), flat_get _ 4 POp.vals_len l i 1 hi (by omega), flat_get _ 4 POp.vals_len l i 2 hi (by omega), flat_get _ 4 POp.vals_len l i 3 hi (by omega)⟩
theorem ocells_append (a b : List POp) : ocells (a ++ b) = ocells a ++ ocells b := by simp [ocells]
theorem ocells_one (b : POp) : ocells [b] = b.vals := by simp [ocells]
theorem ocells_nil : ocells [] = [] := rfl
theorem ocells_cell (l : List POp) : ∀ u ∈ ocells l, u.oneCell' = true := by
  intro u hu
  obtain ⟨b, _, hb⟩ := List.mem_flatMap.1 hu
  simp [POp.vals] at hb
  rcases hb with rfl | rfl | rfl | rfl <;> rfl

def kCopy : List UInt8 := [99, 111, 112, 121]
def kData : List UInt8 := [100, 97, 116, 97]
theorem kCopy_is : kCopy = [99, 111, 112, 121] := rfl
theorem kData_is : kData = [100, 97, 116, 97] := rfl
/-- an op's error -/
def opC (o : POp) : Nat :=
  if o.kind = kCopy then (if o.data ≠ [] then 3 else if (0 ≤ o.a ∧ o.a ≤ 4000) ∧ (1 ≤ o.n ∧ o.n ≤ 4000) then 0 else 2)
  else if o.kind = kData then (if o.a ≠ 0 ∨ o.n ≠ 0 then 3 else if 1 ≤ o.data.length ∧ o.data.length ≤ 4000 then 0 else 2)
  else 4
theorem opC_shape {o : POp} (h1 : o.kind = kCopy) (h2 : o.data ≠ []) : opC o = 3 := by unfold opC; rw [if_pos h1, if_pos h2]
theorem opC_bound {o : POp} (h1 : o.kind = kCopy) (h2 : o.data = []) (h3 : ¬ ((0 ≤ o.a ∧ o.a ≤ 4000) ∧ (1 ≤ o.n ∧ o.n ≤ 4000))) : opC o = 2 := by unfold opC; rw [if_pos h1, if_neg (by simp [h2]), if_neg h3]
theorem opC_fine {o : POp} (h1 : o.kind = kCopy) (h2 : o.data = []) (h3 : (0 ≤ o.a ∧ o.a ≤ 4000) ∧ (1 ≤ o.n ∧ o.n ≤ 4000)) : opC o = 0 := by unfold opC; rw [if_pos h1, if_neg (by simp [h2]), if_pos h3]
theorem opD_shape {o : POp} (h0 : o.kind ≠ kCopy) (h1 : o.kind = kData) (h2 : o.a ≠ 0 ∨ o.n ≠ 0) : opC o = 3 := by unfold opC; rw [if_neg h0, if_pos h1, if_pos h2]
theorem opD_bound {o : POp} (h0 : o.kind ≠ kCopy) (h1 : o.kind = kData) (h2 : o.a = 0 ∧ o.n = 0) (h3 : ¬ (1 ≤ o.data.length ∧ o.data.length ≤ 4000)) : opC o = 2 := by unfold opC; rw [if_neg h0, if_pos h1, if_neg (by omega), if_neg h3]
theorem opD_fine {o : POp} (h0 : o.kind ≠ kCopy) (h1 : o.kind = kData) (h2 : o.a = 0 ∧ o.n = 0) (h3 : 1 ≤ o.data.length ∧ o.data.length ≤ 4000) : opC o = 0 := by unfold opC; rw [if_neg h0, if_pos h1, if_neg (by omega), if_pos h3]
theorem opK {o : POp} (h0 : o.kind ≠ kCopy) (h1 : o.kind ≠ kData) : opC o = 4 := by unfold opC; rw [if_neg h0, if_neg h1]
def chkO : List POp → Nat → Nat × Int
  | [], _ => (0, -1)
  | o :: l, i => if opC o = 0 then chkO l (i + 1) else (opC o, i)
def chkOps (l : List POp) : Nat × Int := chkO l 0
theorem chkO_bad {l : List POp} {k : Nat} (h : k < l.length) (hb : opC l[k] ≠ 0) : chkO (l.drop k) k = (opC l[k], (k : Int)) := by
  rw [List.drop_eq_getElem_cons h, chkO, if_neg hb]
theorem chkO_next {l : List POp} {k : Nat} (h : k < l.length) (hb : opC l[k] = 0) : chkO (l.drop k) k = chkO (l.drop (k + 1)) (k + 1) := by
  rw [List.drop_eq_getElem_cons h, chkO, if_pos hb]
theorem chkO_end {l : List POp} {k : Nat} (h : l.length ≤ k) : chkO (l.drop k) k = (0, -1) := by rw [List.drop_eq_nil_of_le h, chkO]
theorem chkO_ok : ∀ (l : List POp) (i : Nat), (chkO l i).1 = 0 ↔ ∀ o ∈ l, opC o = 0
  | [], i => by simp [chkO]
  | o :: l, i => by
    rw [chkO]
    split
    · rename_i h; rw [chkO_ok l (i + 1)]; simp [h]
    · rename_i h; simp [h]
theorem chkOps_ok (l : List POp) : (chkOps l).1 = 0 ↔ ∀ o ∈ l, opC o = 0 := chkO_ok l 0
theorem opC_copy {o : POp} (h : opC o = 0) (hk : o.kind = kCopy) : o.data = [] ∧ 0 ≤ o.a ∧ o.a ≤ 4000 ∧ 1 ≤ o.n ∧ o.n ≤ 4000 := by
  unfold opC at h
  rw [if_pos hk] at h
  split at h
  · simp at h
  · rename_i hd
    split at h
    · rename_i hh; exact ⟨by simpa using hd, hh.1.1, hh.1.2, hh.2.1, hh.2.2⟩
    · simp at h
theorem kne : kData ≠ kCopy := by decide
theorem opC_data {o : POp} (h : opC o = 0) (hk : o.kind = kData) : o.a = 0 ∧ o.n = 0 ∧ 1 ≤ o.data.length ∧ o.data.length ≤ 4000 := by
  unfold opC at h
  rw [if_neg (by rw [hk]; exact kne), if_pos hk] at h
  split at h
  · simp at h
  · rename_i hd
    split at h
    · rename_i hh; exact ⟨by omega, by omega, hh.1, hh.2⟩
    · simp at h
theorem opC_kind {o : POp} (h : opC o = 0) : o.kind = kCopy ∨ o.kind = kData := by
  unfold opC at h
  split at h
  · exact .inl (by assumption)
  · split at h
    · exact .inr (by assumption)
    · simp at h

def costN (l : List POp) : Nat := (l.map fun o => o.data.length).sum
theorem costN_nil : costN [] = 0 := rfl
theorem costN_append (a b : List POp) : costN (a ++ b) = costN a + costN b := by simp [costN]
theorem costN_one (o : POp) : costN [o] = o.data.length := by simp [costN]
theorem costN_cons (o : POp) (l : List POp) : costN (o :: l) = o.data.length + costN l := by simp [costN]

/-- a piece of an op: an error's number, the bytes -/
def pieceC (old : List UInt8) (size : Nat) (o : POp) : Nat × List UInt8 :=
  if o.kind = kData then (0, o.data)
  else if (cntOf size old.length : Int) < o.a + o.n then (6, [])
  else (0, (old.drop (o.a.toNat * size)).take (o.n.toNat * size))
/-- ops put together: an error's number and place, the bytes -/
def appA (old : List UInt8) (size : Nat) : List POp → Nat → List UInt8 → (Nat × Int) × List UInt8
  | [], _, out => ((0, -1), out)
  | o :: l, i, out => if (pieceC old size o).1 ≠ 0 then (((pieceC old size o).1, i), [])
      else if 4000 < out.length + (pieceC old size o).2.length then ((8, i), []) else appA old size l (i + 1) (out ++ (pieceC old size o).2)
def appl (old : List UInt8) (size : Int) (l : List POp) : (Nat × Int) × List UInt8 :=
  if (1 ≤ size ∧ size ≤ 64) ∧ old.length ≤ 4000 then (if (chkOps l).1 = 0 then appA old size.toNat l 0 [] else (chkOps l, [])) else ((2, -1), [])
attribute [irreducible] ocells kCopy kData opC chkO chkOps costN pieceC appA appl
end Go.Proofs.YtppkeophochgiaaGreatDoor
