/- Plain laws: ops of a delta; what they put together. No program is in sight here. -/
import Derived.Test.YtkjcclbnbbbfaaaGreatDoorChkPlain
namespace Go.Proofs.YtkjcclbnbbbfaaaGreatDoor
open Go.RowKit

/-- an op: its kind, place, number, data -/
structure POp where
  kind : List UInt8
  a : Int
  n : Int
  data : List UInt8
deriving DecidableEq
def POp.cells : Nat := 4
def POp.vals (o : POp) : List Value := [.string (bs o.kind), .int .i64 o.a, .int .i64 o.n, .string (bs o.data)]
def POp.ok (o : POp) : Prop := o.kind.length ≤ maxLen ∧ o.data.length ≤ maxLen ∧ (Lit.int .i64 o.a).wf = true ∧ (Lit.int .i64 o.n).wf = true
theorem POp.vals_len (o : POp) : o.vals.length = 4 := rfl
def ocells (l : List POp) : List Value := l.flatMap POp.vals
theorem ocells_is (l : List POp) : l.flatMap POp.vals = ocells l := rfl
theorem ocells_len (l : List POp) : (ocells l).length = l.length * 4 := flat_len _ 4 POp.vals_len l
theorem ocells_get (l : List POp) (i : Nat) (hi : i < l.length) : (ocells l)[i * 4]? = some (.string (bs l[i].kind)) ∧ (ocells l)[i * 4 + 1]? = some (.int .i64 l[i].a) ∧ (ocells l)[i * 4 + 2]? = some (.int .i64 l[i].n) ∧ (ocells l)[i * 4 + 3]? = some (.string (bs l[i].data)) :=
  ⟨flat_get _ 4 POp.vals_len l i 0 hi (by omega), flat_get _ 4 POp.vals_len l i 1 hi (by omega), flat_get _ 4 POp.vals_len l i 2 hi (by omega), flat_get _ 4 POp.vals_len l i 3 hi (by omega)⟩
theorem ocells_append (a b : List POp) : ocells (a ++ b) = ocells a ++ ocells b := by simp [ocells]
theorem ocells_one (b : POp) : ocells [b] = b.vals := by simp [ocells]
theorem ocells_nil : ocells [] = [] := rfl
theorem ocells_cons (b : POp) (l : List POp) : ocells (b :: l) = b.vals ++ ocells l := by simp [ocells]
theorem ocells_cell (l : List POp) : ∀ u ∈ ocells l, u.oneCell' = true := by
  intro u hu
  obtain ⟨b, _, hb⟩ := List.mem_flatMap.1 hu
  simp [POp.vals] at hb
  rcases hb with rfl | rfl | rfl | rfl <;> rfl

def kCopy : List UInt8 := [99, 111, 112, 121]
def kData : List UInt8 := [100, 97, 116, 97]
theorem kCopy_is : kCopy = [99, 111, 112, 121] := rfl
theorem kData_is : kData = [100, 97, 116, 97] := rfl
/-- an op's error -/
def opC (o : POp) : Nat :=
  if o.kind = kCopy then (if o.data ≠ [] then 3 else if (0 ≤ o.a ∧ o.a ≤ 4000) ∧ (1 ≤ o.n ∧ o.n ≤ 4000) then 0 else 2)
  else if o.kind = kData then (if o.a ≠ 0 ∨ o.n ≠ 0 then 3 else if 1 ≤ o.data.length ∧ o.data.length ≤ 4000 then 0 else 2)
  else 4
theorem opC_shape {o : POp} (h1 : o.kind = kCopy) (h2 : o.data ≠ []) : opC o = 3 := by unfold opC; rw [if_pos h1, if_pos h2]
theorem opC_bound {o : POp} (h1 : o.kind = kCopy) (h2 : o.data = []) (h3 : ¬ ((0 ≤ o.a ∧ o.a ≤ 4000) ∧ (1 ≤ o.n ∧ o.n ≤ 4000))) : opC o = 2 := by unfold opC; rw [if_pos h1, if_neg (by simp [h2]), if_neg h3]
theorem opC_fine {o : POp} (h1 : o.kind = kCopy) (h2 : o.data = []) (h3 : (0 ≤ o.a ∧ o.a ≤ 4000) ∧ (1 ≤ o.n ∧ o.n ≤ 4000)) : opC o = 0 := by unfold opC; rw [if_pos h1, if_neg (by simp [h2]), if_pos h3]
theorem opD_shape {o : POp} (h0 : o.kind ≠ kCopy) (h1 : o.kind = kData) (h2 : o.a ≠ 0 ∨ o.n ≠ 0) : opC o = 3 := by unfold opC; rw [if_neg h0, if_pos h1, if_pos h2]
theorem opD_bound {o : POp} (h0 : o.kind ≠ kCopy) (h1 : o.kind = kData) (h2 : o.a = 0 ∧ o.n = 0) (h3 : ¬ (1 ≤ o.data.length ∧ o.data.length ≤ 4000)) : opC o = 2 := by unfold opC; rw [if_neg h0, if_pos h1, if_neg (by omega), if_neg h3]
theorem opD_fine {o : POp} (h0 : o.kind ≠ kCopy) (h1 : o.kind = kData) (h2 : o.a = 0 ∧ o.n = 0) (h3 : 1 ≤ o.data.length ∧ o.data.length ≤ 4000) : opC o = 0 := by unfold opC; rw [if_neg h0, if_pos h1, if_neg (by omega), if_pos h3]
theorem opK {o : POp} (h0 : o.kind ≠ kCopy) (h1 : o.kind ≠ kData) : opC o = 4 := by unfold opC; rw [if_neg h0, if_neg h1]
def chkO : List POp → Nat → Nat × Int
  | [], _ => (0, -1)
  | o :: l, i => if opC o = 0 then chkO l (i + 1) else (opC o, i)
def chkOps (l : List POp) : Nat × Int := chkO l 0
theorem chkO_bad {l : List POp} {k : Nat} (h : k < l.length) (hb : opC l[k] ≠ 0) : chkO (l.drop k) k = (opC l[k], (k : Int)) := by
  rw [List.drop_eq_getElem_cons h, chkO, if_neg hb]
theorem chkO_next {l : List POp} {k : Nat} (h : k < l.length) (hb : opC l[k] = 0) : chkO (l.drop k) k = chkO (l.drop (k + 1)) (k + 1) := by
  rw [List.drop_eq_getElem_cons h, chkO, if_pos hb]
theorem chkO_end {l : List POp} {k : Nat} (h : l.length ≤ k) : chkO (l.drop k) k = (0, -1) := by rw [List.drop_eq_nil_of_le h, chkO]
theorem opC_cases (o : POp) : opC o = 0 ∨ opC o = 2 ∨ opC o = 3 ∨ opC o = 4 := by
  unfold opC; (repeat' split) <;> simp
theorem chkO_ok : ∀ (l : List POp) (i : Nat), (chkO l i).1 = 0 ↔ ∀ o ∈ l, opC o = 0
  | [], i => by simp [chkO]
  | o :: l, i => by
    rw [chkO]
    split
    · rename_i h; rw [chkO_ok l (i + 1)]; simp [h]
    · rename_i h; simp [h]
theorem chkOps_ok (l : List POp) : (chkOps l).1 = 0 ↔ ∀ o ∈ l, opC o = 0 := chkO_ok l 0
theorem opC_copy {o : POp} (h : opC o = 0) (hk : o.kind = kCopy) : o.data = [] ∧ 0 ≤ o.a ∧ o.a ≤ 4000 ∧ 1 ≤ o.n ∧ o.n ≤ 4000 := by
  unfold opC at h
  rw [if_pos hk] at h
  split at h
  · simp at h
  · rename_i hd
    split at h
    · rename_i hh; exact ⟨by simpa using hd, hh.1.1, hh.1.2, hh.2.1, hh.2.2⟩
    · simp at h
theorem kne : kData ≠ kCopy := by decide
theorem opC_data {o : POp} (h : opC o = 0) (hk : o.kind = kData) : o.a = 0 ∧ o.n = 0 ∧ 1 ≤ o.data.length ∧ o.data.length ≤ 4000 := by
  unfold opC at h
  rw [if_neg (by rw [hk]; exact kne), if_pos hk] at h
  split at h
  · simp at h
  · rename_i hd
    split at h
    · rename_i hh; exact ⟨by omega, by omega, hh.1, hh.2⟩
    · simp at h
theorem opC_kind {o : POp} (h : opC o = 0) : o.kind = kCopy ∨ o.kind = kData := by
  unfold opC at h
  split at h
  · exact .inl (by assumption)
  · split at h
    · exact .inr (by assumption)
    · simp at h

def costN (l : List POp) : Nat := (l.map fun o => o.data.length).sum
theorem costN_nil : costN [] = 0 := rfl
theorem costN_append (a b : List POp) : costN (a ++ b) = costN a + costN b := by simp [costN]
theorem costN_one (o : POp) : costN [o] = o.data.length := by simp [costN]
theorem costN_cons (o : POp) (l : List POp) : costN (o :: l) = o.data.length + costN l := by simp [costN]

/-- ops too many, or too long, for a statement -/
def longB (l : List POp) : Bool := decide (40 < l.length) || l.any fun o => (decide (100 < o.data.length) && decide (o.data.length ≠ 4001)) || decide (20 < o.kind.length)
theorem longB_no {l : List POp} (h : longB l = false) : l.length ≤ 40 ∧ ∀ o ∈ l, (o.data.length ≤ 100 ∨ o.data.length = 4001) ∧ o.kind.length ≤ 20 := by
  simp only [longB, Bool.or_eq_false_iff, decide_eq_false_iff_not, List.any_eq_false, Bool.not_eq_true, Bool.and_eq_false_iff] at h
  refine ⟨by omega, fun o ho => ?_⟩
  have := h.2 o ho
  simp at this
  omega

/-- a piece of an op: an error's number, the bytes -/
def pieceC (old : List UInt8) (size : Nat) (o : POp) : Nat × List UInt8 :=
  if o.kind = kData then (0, o.data)
  else if (cntOf size old.length : Int) < o.a + o.n then (6, [])
  else (0, (old.drop (o.a.toNat * size)).take (o.n.toNat * size))
/-- ops put together: an error's number and place, the bytes -/
def appA (old : List UInt8) (size : Nat) : List POp → Nat → List UInt8 → (Nat × Int) × List UInt8
  | [], _, out => ((0, -1), out)
  | o :: l, i, out => if (pieceC old size o).1 ≠ 0 then (((pieceC old size o).1, i), [])
      else if 4000 < out.length + (pieceC old size o).2.length then ((8, i), []) else appA old size l (i + 1) (out ++ (pieceC old size o).2)
def appl (old : List UInt8) (size : Int) (l : List POp) : (Nat × Int) × List UInt8 :=
  if (1 ≤ size ∧ size ≤ 64) ∧ old.length ≤ 4000 then (if (chkOps l).1 = 0 then appA old size.toNat l 0 [] else (chkOps l, [])) else ((2, -1), [])
attribute [irreducible] ocells kCopy kData opC chkO chkOps costN longB pieceC appA appl
end Go.Proofs.YtkjcclbnbbbfaaaGreatDoor
