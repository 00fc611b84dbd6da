/- Plain words of a window: numbers that go round, a sender, a receiver. -/
import Derived.Test.YtnjkopjbognpiaaDoorErr
namespace Go.Proofs.YtnjkopjbognpiaaDoor
open Go.RowKit
set_option linter.unusedVariables false

def md (n : Int) : Int := n % 65536
def wlB (n : Int) : Bool := decide (0 ≤ n) && decide (n < 65536)
def aheadB (a b : Int) : Bool := wlB a && wlB b && (decide (1 ≤ md (b - a)) && decide (md (b - a) < 32768))
def stN (first : Int) : Int := md (max first 0)
theorem md_lt (n : Int) : 0 ≤ md n ∧ md n < 65536 := by unfold md; omega
theorem md_well (n : Int) : wlB (md n) = true := by have := md_lt n; simp [wlB, this]
theorem wlB_true {n : Int} (h : wlB n = true) : 0 ≤ n ∧ n < 65536 := by simpa [wlB] using h
theorem wlB_of {n : Int} (h : 0 ≤ n ∧ n < 65536) : wlB n = true := by simp [wlB, h]
theorem wlB_false {n : Int} (h : wlB n = false) : n < 0 ∨ 0 ≤ n ∧ 65536 ≤ n := by
  by_cases h1 : 0 ≤ n
  · by_cases h2 : n < 65536
    · rw [wlB_of ⟨h1, h2⟩] at h; cases h
    · exact .inr ⟨h1, by omega⟩
  · exact .inl (by omega)
/-- Go's way to it -/
theorem md_tmod (n : Int) : ((n.tmod 65536) + 65536).tmod 65536 = md n := by
  unfold md
  by_cases h : 0 ≤ n
  · rw [Int.tmod_eq_emod_of_nonneg h, Int.tmod_eq_emod_of_nonneg (by omega)]; omega
  · have h1 : n.tmod 65536 = - ((-n) % 65536) := by
      have h2 : n = -(-n) := by omega
      rw [h2, Int.neg_tmod, Int.tmod_eq_emod_of_nonneg (by omega)]; simp
    rw [h1, Int.tmod_eq_emod_of_nonneg (by omega)]; omega
theorem tmod_bounds (n : Int) : -65536 < n.tmod 65536 ∧ n.tmod 65536 < 65536 := by
  have := Int.lt_tmod_of_pos n (show (0 : Int) < 65536 by decide)
  have := Int.tmod_lt_of_pos n (show (0 : Int) < 65536 by decide)
  omega

/-- a kept frame -/
structure PK where
  n : Int
  d : List UInt8
def PK.vals (k : PK) : List Value := [.int .i64 k.n, .string (bs k.d)]
def kcells (l : List PK) : List Value := l.flatMap PK.vals
theorem kcells_nil : kcells [] = [] := rfl
theorem kcells_cons (k : PK) (l : List PK) : kcells (k :: l) = [.int .i64 k.n, .string (bs k.d)] ++ kcells l := rfl
theorem kcells_append (l m : List PK) : kcells (l ++ m) = kcells l ++ kcells m := by unfold kcells; exact List.flatMap_append
theorem kcells_one (k : PK) : kcells [k] = [.int .i64 k.n, .string (bs k.d)] := by rw [kcells_cons, kcells_nil]; rfl
theorem kcells_len (l : List PK) : (kcells l).length = l.length * 2 := by
  induction l with
  | nil => rfl
  | cons k l ih => rw [kcells_cons, List.length_append, ih]; simp; omega
theorem kcells_get (l : List PK) (k : Nat) (h : k < l.length) : (kcells l)[k * 2]? = some (.int .i64 l[k].n) ∧ (kcells l)[k * 2 + 1]? = some (.string (bs l[k].d)) := by
  induction l generalizing k with
  | nil => simp at h
  | cons o l ih =>
    rw [kcells_cons]
    match k with
    | 0 => exact ⟨rfl, rfl⟩
    | k + 1 =>
      obtain ⟨h1, h2⟩ := ih k (by simpa using h)
      refine ⟨?_, ?_⟩
      · rw [show (k + 1) * 2 = 2 + k * 2 by omega]; rw [List.getElem?_append_right (by simp)]; simpa using h1
      · rw [show (k + 1) * 2 + 1 = 2 + (k * 2 + 1) by omega]; rw [List.getElem?_append_right (by simp)]; simpa using h2

/-- what waits: numbers, each with a text -/
def lk (m : List (Int × List UInt8)) (k : Int) : Option (List UInt8) := (m.find? fun p => p.1 == k).map (·.2)
def mdel (m : List (Int × List UInt8)) (k : Int) : List (Int × List UInt8) := m.filter fun p => !(p.1 == k)
def mput (m : List (Int × List UInt8)) (k : Int) (d : List UInt8) : List (Int × List UInt8) := (k, d) :: mdel m k
theorem lk_nil (k : Int) : lk [] k = none := rfl
theorem lk_del_same (m : List (Int × List UInt8)) (k : Int) : lk (mdel m k) k = none := by
  unfold lk mdel
  rw [Option.map_eq_none_iff, List.find?_eq_none]
  intro x hx
  have := (List.mem_filter.1 hx).2
  simpa using this
theorem lk_del_other (m : List (Int × List UInt8)) {k k' : Int} (h : k' ≠ k) : lk (mdel m k) k' = lk m k' := by
  unfold lk mdel
  congr 1
  induction m with
  | nil => rfl
  | cons p m ih =>
    by_cases hp : p.1 = k
    · rw [List.filter_cons_of_neg (by simp [hp]), ih, List.find?_cons_of_neg (by simp [hp]; exact fun e => h e.symm)]
    · rw [List.filter_cons_of_pos (by simp [hp])]
      by_cases hq : p.1 = k'
      · rw [List.find?_cons_of_pos (by simp [hq]), List.find?_cons_of_pos (by simp [hq])]
      · rw [List.find?_cons_of_neg (by simp [hq]), List.find?_cons_of_neg (by simp [hq]), ih]
theorem lk_put_same (m : List (Int × List UInt8)) (k : Int) (d : List UInt8) : lk (mput m k d) k = some d := by
  unfold lk mput
  rw [List.find?_cons_of_pos (by simp)]; rfl
theorem lk_put_other (m : List (Int × List UInt8)) {k k' : Int} (d : List UInt8) (h : k' ≠ k) : lk (mput m k d) k' = lk m k' := by
  have := lk_del_other m h
  unfold lk mput at *
  rw [List.find?_cons_of_neg (by simp; exact fun e => h e.symm)]
  exact this
theorem mdel_len {m : List (Int × List UInt8)} {k : Int} {d : List UInt8} (h : lk m k = some d) : (mdel m k).length < m.length := by
  unfold lk at h
  obtain ⟨p, hp, _⟩ := Option.map_eq_some_iff.1 h
  have hm := List.mem_of_find?_eq_some hp
  have hk := List.find?_some hp
  unfold mdel
  rw [← List.countP_eq_length_filter]
  exact Nat.lt_of_le_of_ne List.countP_le_length (fun e => by
    have := List.countP_eq_length.1 e p hm
    simp [hk] at this)

/-- what a receiver tells: from 'due' on, as long as there is some -/
def drain : Nat → Int → List (Int × List UInt8) → List (List UInt8) × Int × List (Int × List UInt8)
  | 0, due, m => ([], due, m)
  | f + 1, due, m => match lk m due with
    | none => ([], due, m)
    | some s => let r := drain f (md (due + 1)) (mdel m due); (s :: r.1, r.2)
theorem drain_none {f : Nat} {due : Int} {m : List (Int × List UInt8)} (h : lk m due = none) : drain f due m = ([], due, m) := by
  cases f with
  | zero => rfl
  | succ f => unfold drain; rw [h]
theorem drain_some {f : Nat} {due : Int} {m : List (Int × List UInt8)} {s : List UInt8} (h : lk m due = some s) : drain (f + 1) due m = (s :: (drain f (md (due + 1)) (mdel m due)).1, (drain f (md (due + 1)) (mdel m due)).2) := by
  conv => lhs; unfold drain
  rw [h]
/-- what a receiver tells of a frame -/
def takeR (due : Int) (m : List (Int × List UInt8)) (k : Int) (s : List UInt8) : List (List UInt8) × Int × List (Int × List UInt8) :=
  if wlB k = true ∧ lk m k = none ∧ md (k - due) < 32 then drain (mput m k s).length due (mput m k s) else ([], due, m)
theorem takeR_no {due : Int} {m : List (Int × List UInt8)} {k : Int} {s : List UInt8} (h : ¬ (wlB k = true ∧ lk m k = none ∧ md (k - due) < 32)) : takeR due m k s = ([], due, m) := by unfold takeR; rw [if_neg h]
theorem takeR_yes {due : Int} {m : List (Int × List UInt8)} {k : Int} {s : List UInt8} (h : wlB k = true ∧ lk m k = none ∧ md (k - due) < 32) : takeR due m k s = drain (mput m k s).length due (mput m k s) := by unfold takeR; rw [if_pos h]
end Go.Proofs.YtnjkopjbognpiaaDoor
