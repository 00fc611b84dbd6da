/- Texts of one proof, one behind the other: PatchLaws, WholeLaws, Whole. -/
import Derived.Test.YtdpoalbbcmkceaaGreatDoorB28
import Derived.Test.YtdpoalbbcmkceaaGreatDoorB29
import Derived.Test.YtdpoalbbcmkceaaGreatDoorB26
/- Plain laws: ops in two parts put together what they do at once; data costs what it is. -/
namespace Go.Proofs.YtdpoalbbcmkceaaGreatDoor
open Go.RowKit

def catP (old : List UInt8) (size : Nat) (l : List POp) : List UInt8 := l.flatMap fun o => (pieceC old size o).2
theorem catP_append (old : List UInt8) (size : Nat) (a b : List POp) : catP old size (a ++ b) = catP old size a ++ catP old size b := by simp [catP]
theorem catP_cons (old : List UInt8) (size : Nat) (o : POp) (l : List POp) : catP old size (o :: l) = (pieceC old size o).2 ++ catP old size l := by simp [catP]
theorem appA_cons (old : List UInt8) (size : Nat) (o : POp) (l : List POp) (i : Nat) (out : List UInt8) : appA old size (o :: l) i out =
    if (pieceC old size o).1 ≠ 0 then (((pieceC old size o).1, (i : Int)), []) else if 4000 < out.length + (pieceC old size o).2.length then ((8, (i : Int)), []) else appA old size l (i + 1) (out ++ (pieceC old size o).2) := by rw [appA]
theorem appA_nil (old : List UInt8) (size : Nat) (i : Nat) (out : List UInt8) : appA old size [] i out = ((0, -1), out) := by rw [appA]
theorem appA_zero (old : List UInt8) (size : Nat) : ∀ (l : List POp) (i : Nat) (out : List UInt8), out.length ≤ 4000 → (appA old size l i out).1.1 = 0 →
    (appA old size l i out) = ((0, -1), out ++ catP old size l) ∧ (∀ o ∈ l, (pieceC old size o).1 = 0) ∧ out.length + (catP old size l).length ≤ 4000
  | [], i, out, ho, h => by rw [appA_nil]; simp [catP, ho]
  | o :: l, i, out, ho, h => by
    rw [appA_cons] at h ⊢
    split at h
    · rename_i hb; simp at h; exact absurd h hb
    · rename_i hb
      split at h
      · simp at h
      · rename_i hf
        rw [if_neg hb, if_neg hf]
        obtain ⟨h1, h2, h3⟩ := appA_zero old size l (i + 1) _ (by simp; omega) h
        rw [h1, catP_cons]
        refine ⟨by simp, fun x hx => ?_, by simp at h3 ⊢; omega⟩
        rcases List.mem_cons.1 hx with rfl | hx
        · simpa using hb
        · exact h2 x hx
theorem appA_fine (old : List UInt8) (size : Nat) : ∀ (l : List POp) (i : Nat) (out : List UInt8), (∀ o ∈ l, (pieceC old size o).1 = 0) → out.length + (catP old size l).length ≤ 4000 →
    appA old size l i out = ((0, -1), out ++ catP old size l)
  | [], i, out, _, _ => by rw [appA_nil]; simp [catP]
  | o :: l, i, out, h, h2 => by
    rw [catP_cons] at h2 ⊢
    simp at h2
    rw [appA_cons, if_neg (by simp [h o (by simp)]), if_neg (by omega), appA_fine old size l (i + 1) _ (fun x hx => h x (by simp [hx])) (by simp; omega)]
    simp
theorem appl_zero {old : List UInt8} {size : Int} {l : List POp} (h : (appl old size l).1.1 = 0) :
    ((1 ≤ size ∧ size ≤ 64) ∧ old.length ≤ 4000) ∧ (∀ o ∈ l, opC o = 0) ∧ appl old size l = ((0, -1), catP old size.toNat l) ∧ (∀ o ∈ l, (pieceC old size.toNat o).1 = 0) ∧ (catP old size.toNat l).length ≤ 4000 := by
  by_cases hok : (1 ≤ size ∧ size ≤ 64) ∧ old.length ≤ 4000
  · by_cases hc : (chkOps l).1 = 0
    · rw [appl_yes hok hc] at h ⊢
      obtain ⟨h1, h2, h3⟩ := appA_zero old size.toNat l 0 [] (by simp) h
      exact ⟨hok, (chkOps_ok l).1 hc, by rw [h1]; simp, h2, by simpa using h3⟩
    · rw [appl_bad hok hc] at h; exact absurd h hc
  · rw [appl_no hok] at h; simp at h
theorem appl_fine {old : List UInt8} {size : Int} {l : List POp} (hok : (1 ≤ size ∧ size ≤ 64) ∧ old.length ≤ 4000) (h1 : ∀ o ∈ l, opC o = 0) (h2 : ∀ o ∈ l, (pieceC old size.toNat o).1 = 0) (h3 : (catP old size.toNat l).length ≤ 4000) :
    appl old size l = ((0, -1), catP old size.toNat l) := by
  rw [appl_yes hok ((chkOps_ok l).2 h1), appA_fine old size.toNat l 0 [] h2 (by simpa using h3)]; simp
theorem appl_err {old : List UInt8} {size : Int} {l : List POp} (h : (appl old size l).1.1 ≠ 0) : (appl old size l).2 = [] := by
  by_cases hok : (1 ≤ size ∧ size ≤ 64) ∧ old.length ≤ 4000
  · by_cases hc : (chkOps l).1 = 0
    · rw [appl_yes hok hc] at h ⊢
      have H : ∀ (l : List POp) (i : Nat) (out : List UInt8), (appA old size.toNat l i out).1.1 ≠ 0 → (appA old size.toNat l i out).2 = [] := by
        intro l
        induction l with
        | nil => intro i out h; rw [appA_nil] at h; simp at h
        | cons o l ih =>
          intro i out h
          rw [appA_cons] at h ⊢
          split
          · rfl
          · rename_i hb
            rw [if_neg hb] at h
            split
            · rfl
            · rename_i hf
              rw [if_neg hf] at h
              exact ih _ _ h
      exact H l 0 [] h
    · rw [appl_bad hok hc]
  · rw [appl_no hok]
/-- ops in two parts -/
theorem appl_parts {old : List UInt8} {size : Int} {l : List POp} (k : Nat) (h : (appl old size l).1.1 = 0) :
    (appl old size (l.take k)) = ((0, -1), catP old size.toNat (l.take k)) ∧ appl old size (l.drop k) = ((0, -1), catP old size.toNat (l.drop k)) ∧ (appl old size l).2 = catP old size.toNat (l.take k) ++ catP old size.toNat (l.drop k) ∧
      costN l ≤ (appl old size l).2.length := by
  obtain ⟨hok, h1, h2, h3, h4⟩ := appl_zero h
  have hc := catP_append old size.toNat (l.take k) (l.drop k)
  rw [List.take_append_drop] at hc
  have hl := congrArg List.length hc
  simp only [List.length_append] at hl
  refine ⟨appl_fine hok (fun o ho => h1 o (List.mem_of_mem_take ho)) (fun o ho => h3 o (List.mem_of_mem_take ho)) (by omega), appl_fine hok (fun o ho => h1 o (List.mem_of_mem_drop ho)) (fun o ho => h3 o (List.mem_of_mem_drop ho)) (by omega), by rw [h2]; exact hc, ?_⟩
  rw [h2]
  clear hc hl h2 h4 h
  induction l with
  | nil => simp [costN_nil]
  | cons o l ih =>
    rw [costN_cons, catP_cons, List.length_append]
    have := ih (fun x hx => h1 x (by simp [hx])) (fun x hx => h3 x (by simp [hx]))
    have ho := h1 o (by simp)
    have : o.data.length ≤ (pieceC old size.toNat o).2.length := by
      rcases opC_kind ho with hk | hk
      · rw [(opC_copy ho hk).1]; simp
      · rw [pieceC_data hk]; exact Nat.le_refl _
    simp only [] at *
    omega

/-- a slice cut at its end, or at its beginning -/
theorem SliceIs.cutEnd {W : World} {s : Option Addr} {n c : Nat} {l : List POp} (h : SliceIs W (.slice s n c) 4 (ocells l)) (k : Nat) (hk : k ≤ n) : SliceIs W (.slice s k c) 4 (ocells (l.take k)) := by
  have hl := ops_len h
  rcases h with ⟨h1, h2⟩ | ⟨a, len, cap, h1, h2, h3, h4, h5⟩
  · cases h1
    have : k = 0 := by omega
    subst this
    exact .inl ⟨rfl, by simp [ocells_nil]⟩
  · cases h1
    refine .inr ⟨a, k, c, rfl, by omega, h3, by rw [ocells_len]; simp; omega, fun i u hu => h5 i u ?_⟩
    have e : ocells l = ocells (l.take k) ++ ocells (l.drop k) := by rw [← ocells_append, List.take_append_drop]
    rw [e, List.getElem?_append_left (List.getElem?_eq_some_iff.1 hu).1]
    exact hu
theorem SliceIs.cutHead {W : World} {a : Addr} {n c : Nat} {l : List POp} (h : SliceIs W (.slice (some a) n c) 4 (ocells l)) (k : Nat) (hk : k ≤ n) : SliceIs W (.slice (some (a.add (k * 4))) (n - k) (c - k)) 4 (ocells (l.drop k)) := by
  have hl := ops_len h
  rcases h with ⟨h1, h2⟩ | ⟨a', len, cap, h1, h2, h3, h4, h5⟩
  · cases h1
  · cases h1
    refine .inr ⟨a.add (k * 4), n - k, c - k, rfl, by omega, by omega, by rw [ocells_len]; simp; omega, fun i u hu => ?_⟩
    rw [Addr.add_add]
    refine h5 _ u ?_
    have e : ocells l = ocells (l.take k) ++ ocells (l.drop k) := by rw [← ocells_append, List.take_append_drop]
    have e2 : (ocells (l.take k)).length = k * 4 := by rw [ocells_len]; simp; omega
    rw [e, List.getElem?_append_right (by omega), e2, Nat.add_sub_cancel_left]
    exact hu
theorem SliceIs.cutAll {W : World} {s : Option Addr} {n c : Nat} {l : List POp} (h : SliceIs W (.slice s n c) 4 (ocells l)) (hc : c = n) : SliceIs W (.slice s 0 0) 4 (ocells (l.drop n)) := by
  have hl := ops_len h
  have e : l.drop n = [] := List.drop_eq_nil_of_le (by omega)
  rw [e, ocells_nil]
  rcases h with ⟨h1, h2⟩ | ⟨a', len, cap, h1, h2, h3, h4, h5⟩
  · cases h1; exact .inl ⟨rfl, rfl⟩
  · cases h1
    exact .inr ⟨a', 0, 0, rfl, Nat.le_refl _, by omega, by simp, fun i u hu => by simp at hu⟩
end Go.Proofs.YtdpoalbbcmkceaaGreatDoor
/- Plain laws of what a delta puts together. -/
namespace Go.Proofs.YtdpoalbbcmkceaaGreatDoor
open Go.RowKit
set_option linter.unusedVariables false

theorem catP_one (old : List UInt8) (size : Nat) (o : POp) : catP old size [o] = (pieceC old size o).2 := by simp [catP]
def Built (old : List UInt8) (size : Nat) (out : List POp) (m : List UInt8) : Prop := catP old size out = m ∧ ∀ o ∈ out, (pieceC old size o).1 = 0
theorem Built.nil (old : List UInt8) (size : Nat) : Built old size [] [] := ⟨by simp [catP], by simp⟩
theorem kc_ne : kCopy ≠ kData := fun h => kne h.symm
theorem piece_one {old : List UInt8} {size k : Nat} (hk : k + 1 ≤ cntOf size old.length) : pieceC old size ⟨kCopy, k, 1, []⟩ = (0, (old.drop (k * size)).take size) := by
  rw [pieceC_copy (by exact kc_ne) (by show ¬ _ < (k : Int) + 1; omega)]
  simp
theorem Built.snoc {old : List UInt8} {size : Nat} {out : List POp} {m p : List UInt8} {o : POp} (h : Built old size out m) (hp : pieceC old size o = (0, p)) : Built old size (out ++ [o]) (m ++ p) := by
  refine ⟨by rw [catP_append, catP_one, h.1, hp], ?_⟩
  intro x hx
  rcases List.mem_append.1 hx with hx | hx
  · exact h.2 x hx
  · rw [List.mem_singleton] at hx; rw [hx, hp]
theorem nil_or_snoc {α : Type} (l : List α) : l = [] ∨ ∃ m o, l = m ++ [o] := by
  rcases List.eq_nil_or_concat l with h | ⟨m, o, h⟩
  · exact .inl h
  · exact .inr ⟨m, o, by rw [h, List.concat_eq_append]⟩
theorem Built.copy {old : List UInt8} {size k : Nat} {out : List POp} {m : List UInt8} (h : Built old size out m) (hk : k + 1 ≤ cntOf size old.length) (hok : ∀ o ∈ out, o.kind = kCopy → 0 ≤ o.a ∧ 0 ≤ o.n) :
    Built old size (addCopy out k) (m ++ (old.drop (k * size)).take size) := by
  rcases nil_or_snoc out with rfl | ⟨l, o, rfl⟩
  · rw [addCopy_nil]
    exact h.snoc (piece_one hk)
  · by_cases hc : o.kind = kCopy ∧ o.a + o.n = (k : Int)
    · rw [addCopy_more l o k hc]
      obtain ⟨hkd, hak⟩ := hc
      obtain ⟨ha, hn⟩ := hok o (by simp) hkd
      have hkd2 : o.kind ≠ kData := by rw [hkd]; exact kc_ne
      have hp := pieceC_copy (old := old) (size := size) hkd2 (by rw [hak]; omega : ¬ (cntOf size old.length : Int) < o.a + o.n)
      have hp2 := pieceC_copy (old := old) (size := size) (o := ⟨o.kind, o.a, o.n + 1, o.data⟩) hkd2 (by show ¬ _ < o.a + (o.n + 1); omega)
      have h1 : Built old size l (catP old size l) := ⟨rfl, fun x hx => h.2 x (by simp [hx])⟩
      have h2 := h1.snoc hp2
      have hm := h.1
      rw [catP_append, catP_one, hp] at hm
      refine ⟨?_, h2.2⟩
      rw [h2.1, ← hm, List.append_assoc]
      congr 1
      have e1 : (o.n + 1).toNat * size = o.n.toNat * size + size := by
        rw [show (o.n + 1).toNat = o.n.toNat + 1 by omega, Nat.add_mul]; omega
      have e2 : k * size = o.a.toNat * size + o.n.toNat * size := by rw [← Nat.add_mul]; congr 1; omega
      show (old.drop (o.a.toNat * size)).take ((o.n + 1).toNat * size) = (old.drop (o.a.toNat * size)).take (o.n.toNat * size) ++ _
      rw [e1, e2, List.take_add, List.drop_drop]
    · rw [addCopy_new l o k hc]
      exact h.snoc (piece_one hk)
theorem Built.data {old : List UInt8} {size : Nat} {out : List POp} {m d : List UInt8} (h : Built old size out m) : Built old size (addData out d) (m ++ d) := by
  rcases nil_or_snoc out with rfl | ⟨l, o, rfl⟩
  · rw [addData_nil]
    exact h.snoc (pieceC_data rfl)
  · by_cases hc : o.kind = kData
    · rw [addData_more l o d hc]
      have hp := pieceC_data (old := old) (size := size) hc
      have hp2 := pieceC_data (old := old) (size := size) (o := ⟨o.kind, o.a, o.n, o.data ++ d⟩) hc
      have h1 : Built old size l (catP old size l) := ⟨rfl, fun x hx => h.2 x (by simp [hx])⟩
      have h2 := h1.snoc hp2
      have hm := h.1
      rw [catP_append, catP_one, hp] at hm
      refine ⟨?_, h2.2⟩
      rw [h2.1, ← hm, List.append_assoc]
    · rw [addData_new l o d hc]
      exact h.snoc (pieceC_data rfl)
theorem OkOut.signs {out : List POp} {i : Nat} (h : OkOut out i) : ∀ o ∈ out, o.kind = kCopy → 0 ≤ o.a ∧ 0 ≤ o.n := by
  intro o ho hk
  rcases h.2.2 o ho with h | h
  · exact ⟨h.2.2.1, by omega⟩
  · exact absurd (hk.symm.trans h.1) kc_ne
theorem built_mkA (old : List UInt8) (l : List Blk) (size : Nat) (S : List UInt8) (hz : 1 ≤ size) (hl : l.length ≤ 4000)
    (H : ∀ q, q < S.length → 0 ≤ findI l (blk ((S.drop q).take size)) → ∃ j : Nat, findI l (blk ((S.drop q).take size)) = j ∧ j + 1 ≤ cntOf size old.length ∧ (old.drop (j * size)).take size = (S.drop q).take size) :
    ∀ (f q : Nat) (out : List POp) (m : List UInt8), S.length ≤ f + q → OkOut out q → Built old size out m → Built old size (mkA l size f (S.drop q) out) (m ++ S.drop q)
  | f, q, out, m, hf, ho, hb => by
    by_cases hq : S.length ≤ q
    · rw [List.drop_eq_nil_of_le hq, mkA_end]
      simpa using hb
    · have hne : S.drop q ≠ [] := by intro h; have := congrArg List.length h; simp at this; omega
      cases f with
      | zero => omega
      | succ f =>
        by_cases hfi : 0 ≤ findI l (blk ((S.drop q).take size))
        · obtain ⟨j, e1, e2, e3⟩ := H q (by omega) hfi
          have hbd := findI_bd l (blk ((S.drop q).take size))
          rw [mkA_copy hne hfi, List.drop_drop]
          rw [e1] at hbd ⊢
          have b2 := hb.copy e2 ho.signs
          rw [e3] at b2
          have o2 := (ho.copy (k := (j : Int)) ⟨by omega, by omega⟩).mono (j := q + size) (by omega)
          have r1 := built_mkA old l size S hz hl H f (q + size) _ _ (by omega) o2 b2
          rw [List.append_assoc, ← List.drop_drop, List.take_append_drop] at r1
          rw [← List.drop_drop]; exact r1
        · rw [mkA_data hne hfi, List.drop_drop]
          have b2 := hb.data (d := (S.drop q).take 1)
          have o2 := ho.data (d := (S.drop q).take 1) (by simp; omega)
          have r1 := built_mkA old l size S hz hl H f (q + 1) _ _ (by omega) o2 b2
          rw [List.append_assoc, ← List.drop_drop, List.take_append_drop] at r1
          rw [← List.drop_drop]; exact r1
theorem built_mkOps (old : List UInt8) (l : List Blk) (size : Nat) (S : List UInt8) (hz : 1 ≤ size) (hl : l.length ≤ 4000)
    (H : ∀ q, q < S.length → 0 ≤ findI l (blk ((S.drop q).take size)) → ∃ j : Nat, findI l (blk ((S.drop q).take size)) = j ∧ j + 1 ≤ cntOf size old.length ∧ (old.drop (j * size)).take size = (S.drop q).take size) :
    Built old size (mkOps l size S) S := by
  have h := built_mkA old l size S hz hl H S.length 0 [] [] (by omega) (OkOut.nil 0) (Built.nil old size)
  unfold mkOps
  simpa using h
theorem appl_built {old S : List UInt8} {size : Nat} {l : List POp} (hz : 1 ≤ size) (hz2 : size ≤ 64) (ho : old.length ≤ 4000) (hS : S.length ≤ 4000) (hok : OkOut l S.length) (h : Built old size l S) : appl old size l = ((0, -1), S) := by
  have h1 := appl_fine (old := old) (size := (size : Int)) (l := l) ⟨⟨by omega, by omega⟩, ho⟩ (hok.chk hS) (by simpa using h.2) (by simpa [h.1] using hS)
  rw [h1]
  have : catP old (size : Int).toNat l = S := by simpa using h.1
  rw [this]
/-- unlike parts with like sums: none -/
def NoClash (old S : List UInt8) (size i : Nat) : Prop := ∀ k, k + ((old.drop (i * size)).take size).length ≤ S.length →
  (S.drop k).take ((old.drop (i * size)).take size).length ≠ (old.drop (i * size)).take size → ws ((S.drop k).take ((old.drop (i * size)).take size).length) = ws ((old.drop (i * size)).take size) →
  csum ((S.drop k).take ((old.drop (i * size)).take size).length) = csum ((old.drop (i * size)).take size) → False
theorem take_len (L : List UInt8) (n : Nat) : L.take (L.take n).length = L.take n := by
  rw [List.length_take]
  by_cases h : n ≤ L.length
  · rw [Nat.min_eq_left h]
  · rw [Nat.min_eq_right (by omega), List.take_length, List.take_of_length_le (by omega)]
theorem whole_fine (old S : List UInt8) (size : Nat) (hz : 1 ≤ size) (hz2 : size ≤ 64) (ho : old.length ≤ 4000) (hS : S.length ≤ 4000) (hc : ∀ i, i < cntOf size old.length → NoClash old S size i) :
    appl old size (mkOps (blks size old) size S) = ((0, -1), S) := by
  have hcl := cnt_le size old.length (by omega)
  have hbl := blks_len size old
  refine appl_built hz hz2 ho hS (mkOps_ok _ size S hz (by omega)) (built_mkOps old _ size S hz (by omega) ?_)
  intro q hq hfi
  obtain ⟨j, hj, e1, e2⟩ := findI_get hfi
  refine ⟨j, e1, by omega, ?_⟩
  rw [blks_get] at e2
  rw [blk_is, blk_is] at e2
  injection e2 with f1 f2 f3
  have g1 : ((old.drop (j * size)).take size).length = ((S.drop q).take size).length := by omega
  have g2 : ws ((old.drop (j * size)).take size) = ws ((S.drop q).take size) := by omega
  refine Classical.byContradiction fun hne => ?_
  refine hc j (by omega) q ?_ ?_ ?_ ?_
  · rw [g1]; simp; omega
  · rw [g1, take_len]; exact fun h => hne h.symm
  · rw [g1, take_len]; exact g2.symm
  · rw [g1, take_len]; exact f3.symm
theorem findI_nil (x : Blk) : findI [] x = -1 := by have := findB_none [] x 0 (by simp); unfold findI; exact this
theorem whole_nil (S : List UInt8) (size : Nat) (hz : 1 ≤ size) (hz2 : size ≤ 64) (hS : S.length ≤ 4000) : appl [] size (mkOps [] size S) = ((0, -1), S) := by
  refine appl_built hz hz2 (by simp) hS (mkOps_ok _ size S hz (by simp)) (built_mkOps [] [] size S hz (by simp) ?_)
  intro q _ h
  rw [findI_nil] at h
  omega
theorem cost_nil (size : Nat) : ∀ (f : Nat) (s : List UInt8) (out : List POp), s.length ≤ f → costN (mkA [] size f s out) = costN out + s.length
  | 0, s, out, h => by rw [mkA_zero]; omega
  | f + 1, s, out, h => by
    by_cases hs : s = []
    · subst hs; rw [mkA_end]; simp
    · have hp : 0 < s.length := List.length_pos_iff.2 hs
      rw [mkA_data hs (by rw [findI_nil]; omega), cost_nil size f _ _ (by rw [List.length_drop]; omega), costN_data, List.length_take, List.length_drop]
      omega
theorem mkOps_nil_cost (size : Nat) (S : List UInt8) : costN (mkOps [] size S) = S.length := by
  unfold mkOps
  rw [cost_nil size _ _ _ (Nat.le_refl _), costN_nil]; omega
/-- what Whole tells -/
def whC (old : List UInt8) (size : Int) (l : List POp) (n c : Int) : Nat × Int := if (appl old size l).1.1 ≠ 0 then (appl old size l).1 else if ((appl old size l).2.length : Int) = n ∧ (csum (appl old size l).2 : Int) = c then (0, -1) else (10, -1)
def whL (old : List UInt8) (size : Int) (l : List POp) (n c : Int) : List UInt8 := if (whC old size l n c).1 = 0 then (appl old size l).2 else []
theorem wh_bad {old : List UInt8} {size : Int} {l : List POp} {n c : Int} (h : (appl old size l).1.1 ≠ 0) : whC old size l n c = (appl old size l).1 ∧ whL old size l n c = [] := by
  have e : whC old size l n c = (appl old size l).1 := by unfold whC; rw [if_pos h]
  exact ⟨e, by unfold whL; rw [e, if_neg h]⟩
theorem wh_fine {old : List UInt8} {size : Int} {l : List POp} {n c : Int} (h : (appl old size l).1.1 = 0) (h2 : ((appl old size l).2.length : Int) = n ∧ (csum (appl old size l).2 : Int) = c) : whC old size l n c = (0, -1) ∧ whL old size l n c = (appl old size l).2 := by
  have e : whC old size l n c = (0, -1) := by unfold whC; rw [if_neg (by simp [h]), if_pos h2]
  exact ⟨e, by unfold whL; rw [e, if_pos rfl]⟩
theorem wh_sum {old : List UInt8} {size : Int} {l : List POp} {n c : Int} (h : (appl old size l).1.1 = 0) (h2 : ¬ (((appl old size l).2.length : Int) = n ∧ (csum (appl old size l).2 : Int) = c)) : whC old size l n c = (10, -1) ∧ whL old size l n c = [] := by
  have e : whC old size l n c = (10, -1) := by unfold whC; rw [if_neg (by simp [h]), if_neg h2]
  exact ⟨e, by unfold whL; rw [e, if_neg (by decide)]⟩
attribute [irreducible] whC whL
end Go.Proofs.YtdpoalbbcmkceaaGreatDoor
/- Contract of patch.Whole. -/
namespace Go.Proofs.YtdpoalbbcmkceaaGreatDoor
open Go.RowKit
set_option linter.unusedVariables false
set_option maxRecDepth 100000 in
set_option maxHeartbeats 1600000 in
theorem whole_any (E : Nat → Addr) (old : List UInt8) (size : Int) (s0 : Option Addr) (n0 c0 : Nat) (l : List POp) (n c : Int) (w : World) (hl : SliceIs w (.slice s0 n0 c0) 4 (ocells l))
    (h2 : Has E w 2) (h3 : Has E w 3) (h4 : Has E w 4) (h6 : Has E w 6) (h8 : Has E w 8) (h10 : Has E w 10) :
    Calls Tryz.prog 103 #[.string (bs old), .int .i64 size, .slice s0 n0 c0, .int .i64 n, .int .u32 c] w fun e w' => ∃ v, e = .returned (.tuple #[.string (bs (whL old size l n c)), v]) ∧ FErr E w' v (whC old size l n c).1 (whC old size l n c).2 ∧ Below w.heap.size w w' := by
  have AP := Lib.hid (apply_any E old size s0 n0 c0 l w hl h2 h3 h4 h6 h8)
  have H10 := Lib.hid h10
  clear hl h2 h3 h4 h6 h8 h10
  by_cases hok : (appl old size l).1.1 = 0
  · have hlen := (appl_zero hok).2.2.2.2
    have hsnd := (appl_zero hok).2.2.1
    have hl4 : (appl old size l).2.length ≤ 4000 := by rw [hsnd]; exact hlen
    have SU := Lib.hid (fun w' => sum_any (bs (appl old size l).2) w' (by rw [bs_size]; omega))
    rw [bs_list] at SU
    have YES := Lib.hid (wh_fine (n := n) (c := c) hok)
    have NO := Lib.hid (wh_sum (n := n) (c := c) hok)
    have HOK := Lib.hid hok
    clear hlen hsnd hok
    generalize (appl old size l).2 = out at *
    generalize (appl old size l).1 = p at *
    by_cases hn : (out.length : Int) = n
    · by_cases hc : (csum out : Int) = c
      · have Z := Lib.hid (YES.out ⟨hn, hc⟩)
        subst hn
        subst hc
        clear YES NO
        go_enter Tryz.func103, Tryz.ntmps103
        go_wp2_with fail
        refine AP.out.mono ?_
        rintro e w1 ⟨v, rfl, fe, b1⟩
        rw [HOK.out] at fe
        rw [fe.zero]
        clear fe
        go_wp2_with (go_at_call 27; refine (SU.out _).mono ?_; rintro e w2 ⟨rfl, rfl⟩)
        go_ret2
        exact ⟨.nilIface, ret2 (by rw [Z.out.2]; rfl) rfl, by rw [Z.out.1]; exact FErr.nil E _, b1⟩
      · have Z := Lib.hid (NO.out (fun h => hc h.2))
        subst hn
        have hcb : ((csum out : Int) == c) = false := by rw [beq_eq_false_iff_ne]; exact hc
        clear YES NO hc
        go_enter Tryz.func103, Tryz.ntmps103
        go_wp2_with fail
        refine AP.out.mono ?_
        rintro e w1 ⟨v, rfl, fe, b1⟩
        rw [HOK.out] at fe
        rw [fe.zero]
        clear fe
        have c10 : w1.cell? ⟨9, 0, none⟩ = some (errv (E 10)) := H10.out.below b1
        unfold errv at c10
        go_wp2_with (go_at_call 27; refine (SU.out _).mono ?_; rintro e w2 ⟨rfl, rfl⟩)
        go_ret2
        exact ⟨.iface 237 (.pointer (some (E 10))), ret2 (by rw [Z.out.2, bs_nil]; rfl) rfl, by rw [Z.out.1]; have h := FErr.ev E w1 10; rw [ev_pos E (by decide)] at h; exact h, b1⟩
    · have Z := Lib.hid (NO.out (fun h => hn h.1))
      have hcb : ((out.length : Int) == n) = false := by rw [beq_eq_false_iff_ne]; exact hn
      clear YES NO hn
      go_enter Tryz.func103, Tryz.ntmps103
      go_wp2_with fail
      refine AP.out.mono ?_
      rintro e w1 ⟨v, rfl, fe, b1⟩
      rw [HOK.out] at fe
      rw [fe.zero]
      clear fe
      have c10 : w1.cell? ⟨9, 0, none⟩ = some (errv (E 10)) := H10.out.below b1
      unfold errv at c10
      go_wp2_with (go_at_call 27; refine (SU.out _).mono ?_; rintro e w2 ⟨rfl, rfl⟩)
      go_ret2
      exact ⟨.iface 237 (.pointer (some (E 10))), ret2 (by rw [Z.out.2, bs_nil]; rfl) rfl, by rw [Z.out.1]; have h := FErr.ev E w1 10; rw [ev_pos E (by decide)] at h; exact h, b1⟩
  · have Z := Lib.hid (wh_bad (n := n) (c := c) hok)
    have HOK := Lib.hid hok
    rw [Z.out.1, Z.out.2]
    clear hok
    go_enter Tryz.func103, Tryz.ntmps103
    go_wp2_with fail
    refine AP.out.mono ?_
    rintro e w1 ⟨v, rfl, fe, b1⟩
    obtain ⟨t, p, hv⟩ := fe.some HOK.out
    have FE := Lib.hid fe
    clear fe
    rw [hv] at FE ⊢
    go_wp2_with fail
    go_ret2
    exact ⟨.iface t (.pointer (some p)), ret2 (by rw [bs_nil]; rfl) rfl, FE.out, b1⟩
end Go.Proofs.YtdpoalbbcmkceaaGreatDoor
