/- Plain laws of a gate's text: what is read of it is what was written. No program is in sight. -/
import Derived.Test.YtkjcclbnbbbfaaaGreatDoorGateMap
namespace Go.Proofs.YtkjcclbnbbbfaaaGreatDoor
open Go.RowKit
set_option linter.unusedVariables false

/-- a line's error -/
def glC (m : GM) (s last : List UInt8) (first : Bool) : Nat :=
  match cutC 32 s with
  | none => 1
  | some p => match nmL 10 p.2 with
    | none => 1
    | some n => if nameB p.1 = false then 5 else if n < 1 ∨ 2147483648 < n then 2 else if first = false ∧ ltL last p.1 = false then 9 else stC m p.1 n
/-- the gate behind a line -/
def glM (m : GM) (s : List UInt8) : GM :=
  match cutC 32 s with
  | none => m
  | some p => match nmL 10 p.2 with
    | none => m
    | some n => stM m p.1 n
theorem glC_cut {m : GM} {s last : List UInt8} {f : Bool} (h : cutC 32 s = none) : glC m s last f = 1 := by unfold glC; rw [h]
theorem glC_num {m : GM} {s last : List UInt8} {f : Bool} {p : List UInt8 × List UInt8} (h : cutC 32 s = some p) (h2 : nmL 10 p.2 = none) : glC m s last f = 1 := by unfold glC; rw [h]; simp only; rw [h2]
theorem glC_name {m : GM} {s last : List UInt8} {f : Bool} {p : List UInt8 × List UInt8} {n : Nat} (h : cutC 32 s = some p) (h2 : nmL 10 p.2 = some n) (h3 : nameB p.1 = false) : glC m s last f = 5 := by unfold glC; rw [h]; simp only; rw [h2]; simp only; rw [if_pos h3]
theorem glC_bound {m : GM} {s last : List UInt8} {f : Bool} {p : List UInt8 × List UInt8} {n : Nat} (h : cutC 32 s = some p) (h2 : nmL 10 p.2 = some n) (h3 : nameB p.1 = true) (h4 : n < 1 ∨ 2147483648 < n) : glC m s last f = 2 := by
  unfold glC; rw [h]; simp only; rw [h2]; simp only; rw [if_neg (by simp [h3]), if_pos h4]
theorem glC_order {m : GM} {s last : List UInt8} {p : List UInt8 × List UInt8} {n : Nat} (h : cutC 32 s = some p) (h2 : nmL 10 p.2 = some n) (h3 : nameB p.1 = true) (h4 : ¬ (n < 1 ∨ 2147483648 < n)) (h5 : ltL last p.1 = false) : glC m s last false = 9 := by
  unfold glC; rw [h]; simp only; rw [h2]; simp only; rw [if_neg (by simp [h3]), if_neg h4, if_pos (by simp [h5])]
theorem glC_set {m : GM} {s last : List UInt8} {f : Bool} {p : List UInt8 × List UInt8} {n : Nat} (h : cutC 32 s = some p) (h2 : nmL 10 p.2 = some n) (h3 : nameB p.1 = true) (h4 : ¬ (n < 1 ∨ 2147483648 < n)) (h5 : ¬ (f = false ∧ ltL last p.1 = false)) : glC m s last f = stC m p.1 n := by
  unfold glC; rw [h]; simp only; rw [h2]; simp only; rw [if_neg (by simp [h3]), if_neg h4, if_neg h5]
theorem glM_set {m : GM} {s : List UInt8} {p : List UInt8 × List UInt8} {n : Nat} (h : cutC 32 s = some p) (h2 : nmL 10 p.2 = some n) : glM m s = stM m p.1 n := by unfold glM; rw [h]; simp only; rw [h2]
theorem stC_le (m : GM) (k : List UInt8) (x : Int) : stC m k x ≤ 12 := by
  unfold stC mayC
  (repeat' split) <;> omega
theorem glC_le (m : GM) (s last : List UInt8) (f : Bool) : glC m s last f ≤ 12 := by
  unfold glC
  split
  · omega
  · split
    · omega
    · have := stC_le m (by assumption : List UInt8 × List UInt8).1 (by assumption : Nat)
      (repeat' split)
      all_goals first | omega | exact stC_le _ _ _
/-- lines of a text, one by one -/
def rdg : Nat → Nat → List UInt8 → GM → List UInt8 → GM × Nat × Int
  | 0, _, _, m, _ => (m, 0, -1)
  | f + 1, i, last, m, s => if s = [] then (m, 0, -1) else match cutC 10 s with
    | none => (m, 1, i)
    | some p => if glC m p.1 last (i == 0) ≠ 0 then (m, glC m p.1 last (i == 0), i) else rdg f (i + 1) (cutA 32 p.1) (glM m p.1) p.2
theorem rdg_end (f i : Nat) (last : List UInt8) (m : GM) : rdg f i last m [] = (m, 0, -1) := by cases f <;> simp [rdg]
theorem rdg_none {f i : Nat} {last : List UInt8} {m : GM} {s : List UInt8} (hs : s ≠ []) (h : cutC 10 s = none) : rdg (f + 1) i last m s = (m, 1, (i : Int)) := by rw [rdg, if_neg hs, h]
theorem rdg_bad {f i : Nat} {last : List UInt8} {m : GM} {s : List UInt8} {p : List UInt8 × List UInt8} (hs : s ≠ []) (h : cutC 10 s = some p) (hb : glC m p.1 last (i == 0) ≠ 0) : rdg (f + 1) i last m s = (m, glC m p.1 last (i == 0), (i : Int)) := by rw [rdg, if_neg hs, h]; simp only; rw [if_pos hb]
theorem rdg_step {f i : Nat} {last : List UInt8} {m : GM} {s : List UInt8} {p : List UInt8 × List UInt8} (hs : s ≠ []) (h : cutC 10 s = some p) (hb : glC m p.1 last (i == 0) = 0) : rdg (f + 1) i last m s = rdg f (i + 1) (cutA 32 p.1) (glM m p.1) p.2 := by rw [rdg, if_neg hs, h]; simp only; rw [if_neg (by simp [hb])]
theorem rdg_code (f : Nat) : ∀ (i : Nat) (last : List UInt8) (m : GM) (s : List UInt8), (rdg f i last m s).2.1 ≤ 12 ∧ ((rdg f i last m s).2.1 = 0 → (rdg f i last m s).2.2 = -1) := by
  induction f with
  | zero => intro i last m s; exact ⟨by simp [rdg], fun _ => rfl⟩
  | succ f ih =>
    intro i last m s
    by_cases hs : s = []
    · subst hs; rw [rdg_end]; exact ⟨by simp, fun _ => rfl⟩
    · cases h : cutC 10 s with
      | none => rw [rdg_none hs h]; exact ⟨by simp, fun h => by simp at h⟩
      | some p =>
        by_cases hb : glC m p.1 last (i == 0) = 0
        · rw [rdg_step hs h hb]; exact ih _ _ _ _
        · rw [rdg_bad hs h hb]; exact ⟨glC_le _ _ _ _, fun h => absurd h hb⟩
theorem cut10_len {s : List UInt8} {p : List UInt8 × List UInt8} (h : cutC 10 s = some p) : p.2.length < s.length ∧ p.1.length < s.length := by
  obtain ⟨e, _⟩ := cutC_is h
  rw [e]; simp; omega
theorem no10_name {s : List UInt8} (h : nameB s = true) : (10 : UInt8) ∉ s ∧ (32 : UInt8) ∉ s := by
  have ha := ((nameB_iff s).1 h).2.2
  exact ⟨fun h2 => by have := List.all_eq_true.1 ha _ h2; revert this; decide, fun h2 => by have := List.all_eq_true.1 ha _ h2; revert this; decide⟩
theorem no10_dec (n : Nat) : (10 : UInt8) ∉ Lib.decDigits n := fun h => by
  have := dec_digit n _ h
  have : (10 : UInt8).toNat = 10 := rfl
  omega
theorem gtext_cons (p : List UInt8 × Nat) (l : GM) : gtext (p :: l) = (p.1 ++ 32 :: Lib.decDigits p.2) ++ 10 :: gtext l := by
  unfold gtext
  rw [List.flatMap_cons]
  unfold lineG
  simp
theorem glk_take {l : GM} (h : GSrt l) (j : Nat) (hj : j < l.length) : glk (l.take j) (l[j]'hj).1 = 0 ∧ gput (l.take j) (l[j]'hj).1 (l[j]'hj).2 = l.take (j + 1) := by
  have hn : (l[j]'hj).1 ∉ (l.take j).map Prod.fst := by
    intro hm
    obtain ⟨p, hp, e⟩ := List.mem_map.1 hm
    obtain ⟨i, hi, rfl⟩ := List.mem_iff_getElem.1 hp
    rw [List.length_take] at hi
    rw [List.getElem_take] at e
    have := List.pairwise_iff_getElem.1 h i j (by omega) hj (by omega)
    exact ltL_ne this e
  refine ⟨?_, ?_⟩
  · have hz : ∀ (x : GM), (l[j]'hj).1 ∉ x.map Prod.fst → glk x (l[j]'hj).1 = 0 := by
      intro x hx
      induction x with
      | nil => rfl
      | cons q x ih =>
        rw [List.map_cons, List.mem_cons, not_or] at hx
        unfold glk
        rw [if_neg (fun e => hx.1 e.symm)]
        exact ih hx.2
    exact hz _ hn
  · rw [gput_new hn, List.take_succ_eq_append_getElem hj]
theorem rdg_from {l : GM} (h : GWF l) : ∀ (r j : Nat) (f : Nat) (last : List UInt8), r + j = l.length → r + 1 ≤ f → (j ≠ 0 → ∃ (hj : j - 1 < l.length), last = (l[j - 1]'hj).1) → rdg f j last (l.take j) (gtext (l.drop j)) = (l, 0, -1) := by
  intro r
  induction r with
  | zero =>
    intro j f last hj hf _
    rw [List.drop_of_length_le (by omega), List.take_of_length_le (by omega)]
    exact rdg_end _ _ _ _
  | succ r ih =>
    intro j f last hj hf hlast
    have hjl : j < l.length := by omega
    obtain ⟨f, rfl⟩ : ∃ f', f = f' + 1 := ⟨f - 1, by omega⟩
    have hp := List.getElem_mem hjl
    have hnm := h.nm _ hp
    obtain ⟨e1, e2⟩ := h.ep _ hp
    obtain ⟨n1, n2⟩ := no10_name hnm
    have hc : cutC 10 (gtext (l.drop j)) = some ((l[j]'hjl).1 ++ 32 :: Lib.decDigits (l[j]'hjl).2, gtext (l.drop (j + 1))) := by
      rw [List.drop_eq_getElem_cons hjl, gtext_cons]
      refine cutC_of ?_ _
      simp only [List.mem_append, List.mem_cons, not_or]
      exact ⟨n1, by decide, no10_dec _⟩
    have hne : gtext (l.drop j) ≠ [] := fun e => by rw [e] at hc; cases hc
    have hc2 : cutC 32 ((l[j]'hjl).1 ++ 32 :: Lib.decDigits (l[j]'hjl).2) = some ((l[j]'hjl).1, Lib.decDigits (l[j]'hjl).2) := cutC_of n2 _
    have hnum : nmL 10 (Lib.decDigits (l[j]'hjl).2) = some (l[j]'hjl).2 := nm_dec _ _ (dec_len_le (k := 9) (by omega))
    obtain ⟨k1, k2⟩ := glk_take h.srt j hjl
    have hmay : mayC (l.take j) (l[j]'hjl).1 = 0 := mayC_ok hnm (fun hh => by have := hh.2; rw [List.length_take] at this; have := h.few; omega)
    have hst := st_ok (m := l.take j) (k := (l[j]'hjl).1) (n := ((l[j]'hjl).2 : Int)) hmay (by omega)
    have hsn : stN (l.take j) (l[j]'hjl).1 ((l[j]'hjl).2 : Int) = (l[j]'hjl).2 := by
      unfold stN
      rw [k1, if_pos (by omega)]
      simp
    rw [hsn, k2] at hst
    have hord : ¬ ((j == 0) = false ∧ ltL last (l[j]'hjl).1 = false) := by
      rintro ⟨h1, h2⟩
      have hj0 : j ≠ 0 := by simpa using h1
      obtain ⟨hj1, rfl⟩ := hlast hj0
      have := List.pairwise_iff_getElem.1 h.srt (j - 1) j (by omega) hjl (by omega)
      rw [this] at h2; cases h2
    have hg := glC_set (m := l.take j) (last := last) (f := j == 0) hc2 hnum hnm (by omega) hord
    simp only at hg
    rw [hst.1] at hg
    rw [rdg_step hne hc hg]
    simp only
    rw [glM_set hc2 hnum]
    simp only
    rw [hst.2]
    have hcA : cutA 32 ((l[j]'hjl).1 ++ 32 :: Lib.decDigits (l[j]'hjl).2) = (l[j]'hjl).1 := by unfold cutA; rw [hc2]
    rw [hcA]
    exact ih (j + 1) f _ (by omega) (by omega) (fun _ => ⟨by omega, by simp⟩)
/-- what is read of a gate's text -/
def readG (s : List UInt8) : GM × Nat × Int := rdg (s.length + 1) 0 [] [] s
theorem gtext_len (l : GM) : l.length ≤ (gtext l).length := by
  induction l with
  | nil => simp
  | cons p l ih => rw [gtext_cons]; simp; omega
theorem readG_text {l : GM} (h : GWF l) : readG (gtext l) = (l, 0, -1) := by
  have := rdg_from h l.length 0 ((gtext l).length + 1) [] (by omega) (by have := gtext_len l; omega) (fun e => absurd rfl e)
  exact this
end Go.Proofs.YtkjcclbnbbbfaaaGreatDoor
