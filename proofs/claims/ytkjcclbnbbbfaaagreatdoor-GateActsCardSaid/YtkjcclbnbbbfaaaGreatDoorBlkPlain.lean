/- Plain laws: blocks of a file, as their sums. No program is in sight here. -/
import Derived.Test.YtkjcclbnbbbfaaaGreatDoorNumPlain
import Derived.Test.YtkjcclbnbbbfaaaGreatDoorCrc
namespace Go.Proofs.YtkjcclbnbbbfaaaGreatDoor
open Go.RowKit

/-- what stands at a place of rows of k cells -/
theorem flat_get {α : Type} (f : α → List Value) (k : Nat) (hf : ∀ a, (f a).length = k) : ∀ (l : List α) (i j : Nat) (hi : i < l.length), j < k → (l.flatMap f)[i * k + j]? = (f l[i])[j]?
  | [], i, j, hi, _ => by simp at hi
  | a :: l, 0, j, _, hj => by
    simp only [List.flatMap_cons, Nat.zero_mul, Nat.zero_add, List.getElem_cons_zero]
    rw [List.getElem?_append_left (by rw [hf]; exact hj)]
  | a :: l, i + 1, j, hi, hj => by
    simp only [List.flatMap_cons, List.getElem_cons_succ]
    have e : (i + 1) * k + j = k + (i * k + j) := by rw [Nat.add_mul]; omega
    rw [e, List.getElem?_append_right (by rw [hf]; omega), hf]
    have e2 : k + (i * k + j) - k = i * k + j := by omega
    rw [e2]
    exact flat_get f k hf l i j (by simpa using hi) hj
theorem flat_len {α : Type} (f : α → List Value) (k : Nat) (hf : ∀ a, (f a).length = k) (l : List α) : (l.flatMap f).length = l.length * k := by
  induction l with
  | nil => simp
  | cons a l ih => simp only [List.flatMap_cons, List.length_append, hf, ih, List.length_cons, Nat.add_mul]; omega

/-- a block as its sums -/
structure Blk where
  N : Int
  W : Int
  S : Nat
deriving DecidableEq
def Blk.cells (b : Blk) : List Value := [.int .i64 b.N, .int .i64 b.W, .int .u32 b.S]
theorem Blk.cells_len (b : Blk) : b.cells.length = 3 := rfl
def bcells (l : List Blk) : List Value := l.flatMap Blk.cells
theorem bcells_len (l : List Blk) : (bcells l).length = l.length * 3 := flat_len _ 3 Blk.cells_len l
theorem bcells_get (l : List Blk) (i : Nat) (hi : i < l.length) : (bcells l)[i * 3]? = some (.int .i64 l[i].N) ∧ (bcells l)[i * 3 + 1]? = some (.int .i64 l[i].W) ∧ (bcells l)[i * 3 + 2]? = some (.int .u32 l[i].S) :=
  ⟨flat_get _ 3 Blk.cells_len l i 0 hi (by omega), flat_get _ 3 Blk.cells_len l i 1 hi (by omega), flat_get _ 3 Blk.cells_len l i 2 hi (by omega)⟩
theorem bcells_append (a b : List Blk) : bcells (a ++ b) = bcells a ++ bcells b := by simp [bcells]
theorem bcells_one (b : Blk) : bcells [b] = b.cells := by simp [bcells]
theorem bcells_nil : bcells [] = [] := rfl
theorem bcells_cons (b : Blk) (l : List Blk) : bcells (b :: l) = b.cells ++ bcells l := by simp [bcells]
theorem bcells_cell (l : List Blk) : ∀ u ∈ bcells l, u.oneCell' = true := by
  intro u hu
  obtain ⟨b, _, hb⟩ := List.mem_flatMap.1 hu
  simp [Blk.cells] at hb
  rcases hb with rfl | rfl | rfl <;> rfl

def blk (l : List UInt8) : Blk := ⟨l.length, ws l, csum l⟩
theorem blk_is (l : List UInt8) : blk l = ⟨l.length, ws l, csum l⟩ := rfl
/-- the first j blocks of a file -/
def blksN (size : Nat) (l : List UInt8) (j : Nat) : List Blk := (List.range j).map fun i => blk ((l.drop (i * size)).take size)
def cntOf (size len : Nat) : Nat := (len + size - 1) / size
def blks (size : Nat) (l : List UInt8) : List Blk := blksN size l (cntOf size l.length)
theorem blksN_len (size : Nat) (l : List UInt8) (j : Nat) : (blksN size l j).length = j := by simp [blksN]
theorem blks_len (size : Nat) (l : List UInt8) : (blks size l).length = cntOf size l.length := blksN_len _ _ _
theorem blksN_succ (size : Nat) (l : List UInt8) (j : Nat) : blksN size l (j + 1) = blksN size l j ++ [blk ((l.drop (j * size)).take size)] := by simp [blksN, List.range_succ]
theorem blksN_zero (size : Nat) (l : List UInt8) : blksN size l 0 = [] := rfl
theorem cnt_is {size len j : Nat} (h1 : len ≤ j * size) (h2 : j * size < len + size) : cntOf size len = j := by
  unfold cntOf
  refine Nat.div_eq_of_lt_le ?_ ?_
  · omega
  · rw [Nat.add_mul]; omega
theorem cnt_le (size len : Nat) (hs : 0 < size) : cntOf size len ≤ len := by
  unfold cntOf
  by_cases h : len = 0
  · subst h; rw [Nat.div_eq_of_lt (by omega)]; omega
  · refine Nat.div_le_of_le_mul ?_
    have := Nat.mul_le_mul_right len (show 1 ≤ size by omega)
    have h3 : len + size ≤ size * len + 1 := by
      have h4 : (size - 1) * (len - 1) + (size - 1) + (len - 1) + 1 = size * len := by
        obtain ⟨a, rfl⟩ : ∃ a, size = a + 1 := ⟨size - 1, by omega⟩
        obtain ⟨b, rfl⟩ : ∃ b, len = b + 1 := ⟨len - 1, by omega⟩
        simp only [Nat.add_sub_cancel, Nat.add_mul, Nat.mul_add]; omega
      omega
    omega

/-- a size of blocks -/
def sizeN (b : Int) : Nat := if b ≤ 16 then 4 else if b ≤ 64 then 8 else if b ≤ 256 then 16 else if b ≤ 1024 then 32 else 64
theorem sizeN_is (b : Int) : sizeN b = 4 ∨ sizeN b = 8 ∨ sizeN b = 16 ∨ sizeN b = 32 ∨ sizeN b = 64 := by
  unfold sizeN; (repeat' split) <;> simp
theorem sizeN_mono (a b : Int) (h : a ≤ b) : sizeN a ≤ sizeN b := by
  unfold sizeN; (repeat' split) <;> omega
/-- how long a string's value is -/
def strLen : Value → Nat
  | .string s => s.size
  | _ => 0
theorem strLen_is (s : ByteArray) : strLen (.string s) = s.size := rfl

/-- the first block of a list that is this one -/
def findB : List Blk → Blk → Nat → Int
  | [], _, _ => -1
  | b :: l, x, i => if b = x then i else findB l x (i + 1)
def findI (l : List Blk) (x : Blk) : Int := findB l x 0
theorem findB_cons (b : Blk) (l : List Blk) (x : Blk) (i : Nat) : findB (b :: l) x i = if b = x then (i : Int) else findB l x (i + 1) := rfl
theorem findB_drop_hit (l : List Blk) (x : Blk) (i : Nat) (h : i < l.length) (e : l[i] = x) : findB (l.drop i) x i = i := by
  rw [List.drop_eq_getElem_cons h]; simp [findB, e]
theorem findB_drop_miss (l : List Blk) (x : Blk) (i : Nat) (h : i < l.length) (e : ¬ l[i] = x) : findB (l.drop i) x i = findB (l.drop (i + 1)) x (i + 1) := by
  rw [List.drop_eq_getElem_cons h]; simp [findB, e]
theorem findB_end (l : List Blk) (x : Blk) (i : Nat) (h : l.length ≤ i) : findB (l.drop i) x i = -1 := by
  rw [List.drop_eq_nil_of_le h]; rfl
attribute [irreducible] bcells blk blksN cntOf sizeN findB
end Go.Proofs.YtkjcclbnbbbfaaaGreatDoor
