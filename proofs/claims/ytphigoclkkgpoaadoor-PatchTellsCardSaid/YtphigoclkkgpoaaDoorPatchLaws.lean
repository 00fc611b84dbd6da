/- Plain laws: ops in two parts put together what they do at once; data costs what it is. -/
import Derived.Test.YtphigoclkkgpoaaDoorApply
import Derived.Test.YtphigoclkkgpoaaDoorArgOps
namespace Go.Proofs.YtphigoclkkgpoaaDoor
open Go.RowKit

def catP (old : List UInt8) (size : Nat) (l : List POp) : List UInt8 := l.flatMap fun o => (pieceC old size o).2
theorem catP_append (old : List UInt8) (size : Nat) (a b : List POp) : catP old size (a ++ b) = catP old size a ++ catP old size b := by simp [catP]
theorem catP_cons (old : List UInt8) (size : Nat) (o : POp) (l : List POp) : catP old size (o :: l) = (pieceC old size o).2 ++ catP old size l := by simp [catP]
theorem appA_cons (old : List UInt8) (size : Nat) (o : POp) (l : List POp) (i : Nat) (out : List UInt8) : appA old size (o :: l) i out =
    if (pieceC old size o).1 ≠ 0 then (((pieceC old size o).1, (i : Int)), []) else if 4000 < out.length + (pieceC old size o).2.length then ((8, (i : Int)), []) else appA old size l (i + 1) (out ++ (pieceC old size o).2) := by rw [appA]
theorem appA_nil (old : List UInt8) (size : Nat) (i : Nat) (out : List UInt8) : appA old size [] i out = ((0, -1), out) := by rw [appA]
theorem appA_zero (old : List UInt8) (size : Nat) : ∀ (l : List POp) (i : Nat) (out : List UInt8), out.length ≤ 4000 → (appA old size l i out).1.1 = 0 →
    (appA old size l i out) = ((0, -1), out ++ catP old size l) ∧ (∀ o ∈ l, (pieceC old size o).1 = 0) ∧ out.length + (catP old size l).length ≤ 4000
  | [], i, out, ho, h => by rw [appA_nil]; simp [catP, ho]
  | o :: l, i, out, ho, h => by
    rw [appA_cons] at h ⊢
    split at h
    · rename_i hb; simp at h; exact absurd h hb
    · rename_i hb
      split at h
      · simp at h
      · rename_i hf
        rw [if_neg hb, if_neg hf]
        obtain ⟨h1, h2, h3⟩ := appA_zero old size l (i + 1) _ (by simp; omega) h
        rw [h1, catP_cons]
        refine ⟨by simp, fun x hx => ?_, by simp at h3 ⊢; omega⟩
        rcases List.mem_cons.1 hx with rfl | hx
        · simpa using hb
        · exact h2 x hx
theorem appA_fine (old : List UInt8) (size : Nat) : ∀ (l : List POp) (i : Nat) (out : List UInt8), (∀ o ∈ l, (pieceC old size o).1 = 0) → out.length + (catP old size l).length ≤ 4000 →
    appA old size l i out = ((0, -1), out ++ catP old size l)
  | [], i, out, _, _ => by rw [appA_nil]; simp [catP]
  | o :: l, i, out, h, h2 => by
    rw [catP_cons] at h2 ⊢
    simp at h2
    rw [appA_cons, if_neg (by simp [h o (by simp)]), if_neg (by omega), appA_fine old size l (i + 1) _ (fun x hx => h x (by simp [hx])) (by simp; omega)]
    simp
theorem appl_zero {old : List UInt8} {size : Int} {l : List POp} (h : (appl old size l).1.1 = 0) :
    ((1 ≤ size ∧ size ≤ 64) ∧ old.length ≤ 4000) ∧ (∀ o ∈ l, opC o = 0) ∧ appl old size l = ((0, -1), catP old size.toNat l) ∧ (∀ o ∈ l, (pieceC old size.toNat o).1 = 0) ∧ (catP old size.toNat l).length ≤ 4000 := by
  by_cases hok : (1 ≤ size ∧ size ≤ 64) ∧ old.length ≤ 4000
  · by_cases hc : (chkOps l).1 = 0
    · rw [appl_yes hok hc] at h ⊢
      obtain ⟨h1, h2, h3⟩ := appA_zero old size.toNat l 0 [] (by simp) h
      exact ⟨hok, (chkOps_ok l).1 hc, by rw [h1]; simp, h2, by simpa using h3⟩
    · rw [appl_bad hok hc] at h; exact absurd h hc
  · rw [appl_no hok] at h; simp at h
theorem appl_fine {old : List UInt8} {size : Int} {l : List POp} (hok : (1 ≤ size ∧ size ≤ 64) ∧ old.length ≤ 4000) (h1 : ∀ o ∈ l, opC o = 0) (h2 : ∀ o ∈ l, (pieceC old size.toNat o).1 = 0) (h3 : (catP old size.toNat l).length ≤ 4000) :
    appl old size l = ((0, -1), catP old size.toNat l) := by
  rw [appl_yes hok ((chkOps_ok l).2 h1), appA_fine old size.toNat l 0 [] h2 (by simpa using h3)]; simp
theorem appl_err {old : List UInt8} {size : Int} {l : List POp} (h : (appl old size l).1.1 ≠ 0) : (appl old size l).2 = [] := by
  by_cases hok : (1 ≤ size ∧ size ≤ 64) ∧ old.length ≤ 4000
  · by_cases hc : (chkOps l).1 = 0
    · rw [appl_yes hok hc] at h ⊢
      have H : ∀ (l : List POp) (i : Nat) (out : List UInt8), (appA old size.toNat l i out).1.1 ≠ 0 → (appA old size.toNat l i out).2 = [] := by
        intro l
        induction l with
        | nil => intro i out h; rw [appA_nil] at h; simp at h
        | cons o l ih =>
          intro i out h
          rw [appA_cons] at h ⊢
          split
          · rfl
          · rename_i hb
            rw [if_neg hb] at h
            split
            · rfl
            · rename_i hf
              rw [if_neg hf] at h
              exact ih _ _ h
      exact H l 0 [] h
    · rw [appl_bad hok hc]
  · rw [appl_no hok]
/-- ops in two parts -/
theorem appl_parts {old : List UInt8} {size : Int} {l : List POp} (k : Nat) (h : (appl old size l).1.1 = 0) :
    (appl old size (l.take k)) = ((0, -1), catP old size.toNat (l.take k)) ∧ appl old size (l.drop k) = ((0, -1), catP old size.toNat (l.drop k)) ∧ (appl old size l).2 = catP old size.toNat (l.take k) ++ catP old size.toNat (l.drop k) ∧
      costN l ≤ (appl old size l).2.length := by
  obtain ⟨hok, h1, h2, h3, h4⟩ := appl_zero h
  have hc := catP_append old size.toNat (l.take k) (l.drop k)
  rw [List.take_append_drop] at hc
  have hl := congrArg List.length hc
  simp only [List.length_append] at hl
  refine ⟨appl_fine hok (fun o ho => h1 o (List.mem_of_mem_take ho)) (fun o ho => h3 o (List.mem_of_mem_take ho)) (by omega), appl_fine hok (fun o ho => h1 o (List.mem_of_mem_drop ho)) (fun o ho => h3 o (List.mem_of_mem_drop ho)) (by omega), by rw [h2]; exact hc, ?_⟩
  rw [h2]
  clear hc hl h2 h4 h
  induction l with
  | nil => simp [costN_nil]
  | cons o l ih =>
    rw [costN_cons, catP_cons, List.length_append]
    have := ih (fun x hx => h1 x (by simp [hx])) (fun x hx => h3 x (by simp [hx]))
    have ho := h1 o (by simp)
    have : o.data.length ≤ (pieceC old size.toNat o).2.length := by
      rcases opC_kind ho with hk | hk
      · rw [(opC_copy ho hk).1]; simp
      · rw [pieceC_data hk]; exact Nat.le_refl _
    simp only [] at *
    omega

/-- a slice cut at its end, or at its beginning -/
theorem SliceIs.cutEnd {W : World} {s : Option Addr} {n c : Nat} {l : List POp} (h : SliceIs W (.slice s n c) 4 (ocells l)) (k : Nat) (hk : k ≤ n) : SliceIs W (.slice s k c) 4 (ocells (l.take k)) := by
  have hl := ops_len h
  rcases h with ⟨h1, h2⟩ | ⟨a, len, cap, h1, h2, h3, h4, h5⟩
  · cases h1
    have : k = 0 := by omega
    subst this
    exact .inl ⟨rfl, by simp [ocells_nil]⟩
  · cases h1
    refine .inr ⟨a, k, c, rfl, by omega, h3, by rw [ocells_len]; simp; omega, fun i u hu => h5 i u ?_⟩
    have e : ocells l = ocells (l.take k) ++ ocells (l.drop k) := by rw [← ocells_append, List.take_append_drop]
    rw [e, List.getElem?_append_left (List.getElem?_eq_some_iff.1 hu).1]
    exact hu
theorem SliceIs.cutHead {W : World} {a : Addr} {n c : Nat} {l : List POp} (h : SliceIs W (.slice (some a) n c) 4 (ocells l)) (k : Nat) (hk : k ≤ n) : SliceIs W (.slice (some (a.add (k * 4))) (n - k) (c - k)) 4 (ocells (l.drop k)) := by
  have hl := ops_len h
  rcases h with ⟨h1, h2⟩ | ⟨a', len, cap, h1, h2, h3, h4, h5⟩
  · cases h1
  · cases h1
    refine .inr ⟨a.add (k * 4), n - k, c - k, rfl, by omega, by omega, by rw [ocells_len]; simp; omega, fun i u hu => ?_⟩
    rw [Addr.add_add]
    refine h5 _ u ?_
    have e : ocells l = ocells (l.take k) ++ ocells (l.drop k) := by rw [← ocells_append, List.take_append_drop]
    have e2 : (ocells (l.take k)).length = k * 4 := by rw [ocells_len]; simp; omega
    rw [e, List.getElem?_append_right (by omega), e2, Nat.add_sub_cancel_left]
    exact hu
theorem SliceIs.cutAll {W : World} {s : Option Addr} {n c : Nat} {l : List POp} (h : SliceIs W (.slice s n c) 4 (ocells l)) (hc : c = n) : SliceIs W (.slice s 0 0) 4 (ocells (l.drop n)) := by
  have hl := ops_len h
  have e : l.drop n = [] := List.drop_eq_nil_of_le (by omega)
  rw [e, ocells_nil]
  rcases h with ⟨h1, h2⟩ | ⟨a', len, cap, h1, h2, h3, h4, h5⟩
  · cases h1; exact .inl ⟨rfl, rfl⟩
  · cases h1
    exact .inr ⟨a', 0, 0, rfl, Nat.le_refl _, by omega, by simp, fun i u hu => by simp at hu⟩
end Go.Proofs.YtphigoclkkgpoaaDoor
