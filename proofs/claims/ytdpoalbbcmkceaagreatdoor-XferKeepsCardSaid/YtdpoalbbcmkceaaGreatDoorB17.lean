/- Texts of one proof, one behind the other: Row2, IxPlain. -/
import Derived.Test.YtdpoalbbcmkceaaGreatDoorB16
import Derived.Test.YtdpoalbbcmkceaaGreatDoorB06
import Derived.Laws.Rows
/- Rows of structs of two cells: their cells one by one; a row of the call's own that is stored into, cleared behind a place, cut. -/
namespace Go.Proofs.YtdpoalbbcmkceaaGreatDoor
open Go.RowKit
set_option linter.unusedVariables false

section
variable {α : Type} (f g : α → Value)
def rowc (l : List α) : List Value := l.flatMap fun x => [f x, g x]
theorem rowc_nil : rowc f g [] = [] := rfl
theorem rowc_cons (x : α) (l : List α) : rowc f g (x :: l) = [f x, g x] ++ rowc f g l := rfl
theorem rowc_append (l m : List α) : rowc f g (l ++ m) = rowc f g l ++ rowc f g m := by unfold rowc; exact List.flatMap_append
theorem rowc_len (l : List α) : (rowc f g l).length = l.length * 2 := by
  induction l with
  | nil => rfl
  | cons k l ih => rw [rowc_cons, List.length_append, ih]; simp; omega
theorem rowc_get (l : List α) (k : Nat) (h : k < l.length) : (rowc f g l)[k * 2]? = some (f l[k]) ∧ (rowc f g l)[k * 2 + 1]? = some (g l[k]) := by
  induction l generalizing k with
  | nil => simp at h
  | cons o l ih =>
    rw [rowc_cons]
    match k with
    | 0 => exact ⟨rfl, rfl⟩
    | k + 1 =>
      obtain ⟨h1, h2⟩ := ih k (by simpa using h)
      refine ⟨?_, ?_⟩
      · rw [show (k + 1) * 2 = 2 + k * 2 by omega]; rw [List.getElem?_append_right (by simp)]; simpa using h1
      · rw [show (k + 1) * 2 + 1 = 2 + (k * 2 + 1) by omega]; rw [List.getElem?_append_right (by simp)]; simpa using h2
theorem rowc_set (l : List α) (k : Nat) (x : α) : ((rowc f g l).set (k * 2) (f x)).set (k * 2 + 1) (g x) = rowc f g (l.set k x) := by
  induction l generalizing k with
  | nil => rfl
  | cons o l ih =>
    rw [rowc_cons]
    match k with
    | 0 => rfl
    | k + 1 =>
      rw [List.set_cons_succ, rowc_cons, ← ih k, show (k + 1) * 2 + 1 = (k * 2 + 1) + 2 by omega, show (k + 1) * 2 = k * 2 + 2 by omega]
      rfl
theorem rowc_take (l : List α) (k : Nat) : (rowc f g l).take (k * 2) = rowc f g (l.take k) := by
  induction l generalizing k with
  | nil => simp [rowc_nil]
  | cons o l ih =>
    match k with
    | 0 => simp [rowc_nil]
    | k + 1 =>
      rw [List.take_succ_cons, rowc_cons, rowc_cons, ← ih k, show (k + 1) * 2 = k * 2 + 2 by omega]
      rfl
theorem rowc_one (x : α) : rowc f g [x] = [f x, g x] := rfl
theorem rowc_oneCell (h : ∀ x, (f x).oneCell' = true ∧ (g x).oneCell' = true) (l : List α) : ∀ u ∈ rowc f g l, u.oneCell' = true := by
  intro u hu
  obtain ⟨x, _, hx⟩ := List.mem_flatMap.1 hu
  simp at hx
  rcases hx with rfl | rfl
  · exact (h x).1
  · exact (h x).2
/-- an element stored into a row of the call's own -/
theorem own2_store {w : World} {base g0 cap n : Nat} {e : TypeId} {l : List α} (h : w.ownsRow base e 2 (.slice (some ⟨g0, 0, none⟩) n cap) n (rowc f g l)) (k : Nat) (x : α) :
    ((w.setCell ⟨g0, k * 2, none⟩ (f x)).setCell ⟨g0, k * 2 + 1, none⟩ (g x)).ownsRow base e 2 (.slice (some ⟨g0, 0, none⟩) n cap) n (rowc f g (l.set k x)) := by
  have h1 := (h.stored (k * 2) (f x)).1
  have h2 := (h1.stored (k * 2 + 1) (g x)).1
  rw [rowc_set] at h2
  exact h2
/-- cut at a place -/
theorem own_cut {w : World} {base g0 cap n k size : Nat} {e : TypeId} {xs : List Value} (h : w.ownsRow base e size (.slice (some ⟨g0, 0, none⟩) n cap) n xs) (hk : k ≤ n) : w.ownsRow base e size (.slice (some ⟨g0, 0, none⟩) k cap) k (xs.take (k * size)) := by
  obtain ⟨h1, h2⟩ := h
  rcases h2 with ⟨h2, _⟩ | ⟨g', cap', cur, hv, hg, hh, h3, h4, h5, h6⟩
  · cases h2
  · cases hv
    refine ⟨by rw [List.length_take, h1]; exact Nat.min_eq_left (Nat.mul_le_mul_right _ hk), .inr ⟨g0, cap, cur, rfl, hg, hh, by omega, h4, h5, ?_⟩⟩
    rw [← h6, List.take_take, Nat.min_eq_left (Nat.mul_le_mul_right _ hk)]
/-- 'clear' behind a place of a row of the call's own: the row ahead of it stands -/
theorem run_clear_own {P : Program} {w : World} {base g0 cap n k size : Nat} {t e : TypeId} {z : Value} {xs : List Value} (h : w.ownsRow base e size (.slice (some ⟨g0, 0, none⟩) n cap) n xs) (hk : k ≤ n) (hs : 0 < size)
    (ht : P.underlying t = some (.slice e)) (hv : (zeroValue e).run P w = .ok z w) (hz : z.cells.size = size) (h1 : ∀ u ∈ z.cells.toList, u.oneCell' = true) :
    ∃ w', (∀ ty, (Builtin.clear_ #[t] ty #[.slice (some ⟨g0, k * size, none⟩) (n - k) (cap - k)]).run P w = .ok (.tuple #[]) w') ∧ w'.ownsRow base e size (.slice (some ⟨g0, 0, none⟩) k cap) k (xs.take (k * size)) ∧ w.grownBy w' (some g0) := by
  by_cases hnk : n - k = 0
  · have : n = k := by omega
    subst this
    refine ⟨w, ?_, own_cut h (Nat.le_refl _), ⟨rfl, rfl, rfl, Nat.le_refl _, fun _ _ _ => rfl⟩⟩
    intro ty
    simp [Builtin.clear_, run_underlying ht]
  · obtain ⟨h1', h2⟩ := h
    rcases h2 with ⟨h2, _⟩ | ⟨g', cap', cur, hv', hg, hh, h3, h4, h5, h6⟩
    · cases h2
    · cases hv'
      have hzl : (Builtin.zeroCells z.cells (n - k)).size = (n - k) * size := by rw [size_zeroCells, hz]
      have h3m := Nat.mul_le_mul_right size h3
      have hkm := Nat.mul_le_mul_right size hk
      have hsub : (n - k) * size = n * size - k * size := Nat.sub_mul _ _ _
      have hst := run_storeCells_at P g0 (k * size) e (Builtin.zeroCells z.cells (n - k)).toList 0 cur w hh (by rw [Array.length_toList, hzl, h5]; omega) (by
        intro u hu
        have hu' := Array.mem_toList_iff.1 hu
        simp only [Builtin.zeroCells, Array.mem_map, Array.mem_range] at hu'
        obtain ⟨i, hi, rfl⟩ := hu'
        have hlt : i % z.cells.size < z.cells.size := Nat.mod_lt _ (by rw [hz]; exact hs)
        rw [getElem!_pos z.cells _ hlt]
        exact h1 _ (by simp))
      obtain ⟨m, hm⟩ : ∃ m, n - k = m + 1 := ⟨n - k - 1, by omega⟩
      simp only [Nat.add_zero] at hst
      generalize hR : (cur.toList.take (k * size) ++ (Builtin.zeroCells z.cells (n - k)).toList ++ cur.toList.drop (k * size + (Builtin.zeroCells z.cells (n - k)).toList.length)).toArray = R at hst
      refine ⟨w.setRow g0 R, ?_, ⟨by rw [List.length_take, h1']; exact Nat.min_eq_left hkm, .inr ⟨g0, cap, R, rfl, hg, setRow_heap w g0 cur _ e _ hh, by omega, h4, ?_, ?_⟩⟩, ⟨rfl, rfl, rfl, by simp, fun x _ hx => setRow_other w g0 x _ (fun e => hx (by rw [e]))⟩⟩
      · intro ty
        rw [hm] at hst ⊢
        simp [Builtin.clear_, run_underlying ht, hv, hst]
      · rw [← hR]
        simp only [List.size_toArray, List.length_append, List.length_take, List.length_drop, Array.length_toList, hzl]
        omega
      · rw [← hR, List.append_assoc, List.take_left' (by rw [List.length_take, Array.length_toList]; omega), ← h6, List.take_take, Nat.min_eq_left hkm]
end
theorem own_other {w w' : World} {base : Nat} {e : TypeId} {size : Nat} {v : Value} {n : Nat} {xs : List Value} {S : Nat → Prop} (h : w.ownsRow base e size v n xs) (hc : Chg w w' S) (hs : ∀ x, v.ownBlock = some x → ¬ S x) : w'.ownsRow base e size v n xs := by
  obtain ⟨h1, h2⟩ := h
  refine ⟨h1, ?_⟩
  rcases h2 with h2 | ⟨g, cap, cur, hv, hg, hh, h3⟩
  · exact .inl h2
  · subst hv
    exact .inr ⟨g, cap, cur, rfl, hg, (hc.block g (lt_of_block hh) (hs g rfl)).trans hh, h3⟩
end Go.Proofs.YtdpoalbbcmkceaaGreatDoor
/- Plain words of slices.IndexFunc, slices.DeleteFunc. -/
namespace Go.Proofs.YtdpoalbbcmkceaaGreatDoor
open Go.RowKit
set_option linter.unusedVariables false

section
variable {α : Type}
/-- the first place, counted from k; -1: none -/
def ixI : Nat → (α → Bool) → List α → Int
  | _, _, [] => -1
  | k, p, x :: l => if p x = true then k else ixI (k + 1) p l
variable {p : α → Bool} {l : List α} {k : Nat}
theorem ixI_start (p : α → Bool) (l : List α) : ixI 0 p l = ixI 0 p (l.drop 0) := rfl
theorem ixI_yes (h : k < l.length) (hp : p l[k] = true) : ixI k p (l.drop k) = (k : Int) := by rw [List.drop_eq_getElem_cons h, ixI, if_pos hp]
theorem ixI_no (h : k < l.length) (hp : p l[k] = false) : ixI k p (l.drop k) = ixI (k + 1) p (l.drop (k + 1)) := by rw [List.drop_eq_getElem_cons h, ixI, if_neg (by simp [hp])]
theorem ixI_end (h : l.length ≤ k) : ixI k p (l.drop k) = -1 := by rw [List.drop_of_length_le h]; rfl
theorem ixI_from (p : α → Bool) (l : List α) : ∀ k, (ixI k p l = -1 ∧ ∀ x ∈ l, p x = false) ∨ ∃ j, ∃ h : j < l.length, ixI k p l = ((k + j : Nat) : Int) ∧ p l[j] = true ∧ ∀ x ∈ l.take j, p x = false := by
  induction l with
  | nil => intro k; exact .inl ⟨rfl, by simp⟩
  | cons x l ih =>
    intro k
    unfold ixI
    cases hp : p x with
    | true => exact .inr ⟨0, by simp, by simp, by simpa using hp, by simp⟩
    | false =>
      rw [if_neg (by simp)]
      rcases ih (k + 1) with ⟨h1, h2⟩ | ⟨j, h, h1, h2, h3⟩
      · refine .inl ⟨h1, fun y hy => ?_⟩
        rcases List.mem_cons.1 hy with rfl | hy
        · exact hp
        · exact h2 y hy
      · refine .inr ⟨j + 1, by simpa using h, by rw [h1]; omega, by simpa using h2, fun y hy => ?_⟩
        rw [List.take_succ_cons] at hy
        rcases List.mem_cons.1 hy with rfl | hy
        · exact hp
        · exact h3 y hy
theorem ixI_spec (p : α → Bool) (l : List α) : (ixI 0 p l = -1 ∧ ∀ x ∈ l, p x = false) ∨ ∃ j, ∃ h : j < l.length, ixI 0 p l = (j : Int) ∧ p l[j] = true ∧ ∀ x ∈ l.take j, p x = false := by
  rcases ixI_from p l 0 with h | ⟨j, h, h1, h2⟩
  · exact .inl h
  · exact .inr ⟨j, h, by simpa using h1, h2⟩
theorem filter_first {l : List α} {j : Nat} (h : j < l.length) (hp : p l[j] = true) (ha : ∀ x ∈ l.take j, p x = false) : l.take j = (l.take (j + 1)).filter (fun x => !p x) := by
  rw [List.take_succ_eq_append_getElem h, List.filter_append, List.filter_eq_self.2 (fun x hx => by rw [ha x hx]; rfl)]
  simp [hp]
theorem dl_skip {l R : List α} {a b : Nat} (hR : R.length = l.length) (h : b < l.length) (hp : p l[b] = true) (ht : R.take a = (l.take b).filter (fun x => !p x)) (hd : R.drop b = l.drop b) :
    R.take a = (l.take (b + 1)).filter (fun x => !p x) ∧ R.drop (b + 1) = l.drop (b + 1) := by
  refine ⟨?_, by rw [← List.drop_drop, hd, List.drop_drop]⟩
  rw [ht, List.take_succ_eq_append_getElem h, List.filter_append]
  simp [hp]
theorem dl_keep {l R : List α} {a b : Nat} (hR : R.length = l.length) (hab : a < b) (h : b < l.length) (hp : p l[b] = false) (ht : R.take a = (l.take b).filter (fun x => !p x)) (hd : R.drop b = l.drop b) :
    (R.set a l[b]).take (a + 1) = (l.take (b + 1)).filter (fun x => !p x) ∧ (R.set a l[b]).drop (b + 1) = l.drop (b + 1) := by
  refine ⟨?_, by rw [List.drop_set_of_lt (by omega), ← List.drop_drop, hd, List.drop_drop]⟩
  rw [List.take_succ_eq_append_getElem (by rw [List.length_set]; omega), List.take_set_of_le (Nat.le_refl _), ht, List.take_succ_eq_append_getElem h, List.filter_append]
  simp [hp]
end
attribute [irreducible] ixI
end Go.Proofs.YtdpoalbbcmkceaaGreatDoor
