/- Plain laws of what a delta puts together. -/
import Derived.Test.YtphigoclkkgpoaaDoorPatchLaws
import Derived.Test.YtphigoclkkgpoaaDoorDeltaLaws
namespace Go.Proofs.YtphigoclkkgpoaaDoor
open Go.RowKit
set_option linter.unusedVariables false

theorem catP_one (old : List UInt8) (size : Nat) (o : POp) : catP old size [o] = (pieceC old size o).2 := by simp [catP]
def Built (old : List UInt8) (size : Nat) (out : List POp) (m : List UInt8) : Prop := catP old size out = m ∧ ∀ o ∈ out, (pieceC old size o).1 = 0
theorem Built.nil (old : List UInt8) (size : Nat) : Built old size [] [] := ⟨by simp [catP], by simp⟩
theorem kc_ne : kCopy ≠ kData := fun h => kne h.symm
theorem piece_one {old : List UInt8} {size k : Nat} (hk : k + 1 ≤ cntOf size old.length) : pieceC old size ⟨kCopy, k, 1, []⟩ = (0, (old.drop (k * size)).take size) := by
  rw [pieceC_copy (by exact kc_ne) (by show ¬ _ < (k : Int) + 1; omega)]
  simp
theorem Built.snoc {old : List UInt8} {size : Nat} {out : List POp} {m p : List UInt8} {o : POp} (h : Built old size out m) (hp : pieceC old size o = (0, p)) : Built old size (out ++ [o]) (m ++ p) := by
  refine ⟨by rw [catP_append, catP_one, h.1, hp], ?_⟩
  intro x hx
  rcases List.mem_append.1 hx with hx | hx
  · exact h.2 x hx
  · rw [List.mem_singleton] at hx; rw [hx, hp]
theorem nil_or_snoc {α : Type} (l : List α) : l = [] ∨ ∃ m o, l = m ++ [o] := by
  rcases List.eq_nil_or_concat l with h | ⟨m, o, h⟩
  · exact .inl h
  · exact .inr ⟨m, o, by rw [h, List.concat_eq_append]⟩
theorem Built.copy {old : List UInt8} {size k : Nat} {out : List POp} {m : List UInt8} (h : Built old size out m) (hk : k + 1 ≤ cntOf size old.length) (hok : ∀ o ∈ out, o.kind = kCopy → 0 ≤ o.a ∧ 0 ≤ o.n) :
    Built old size (addCopy out k) (m ++ (old.drop (k * size)).take size) := by
  rcases nil_or_snoc out with rfl | ⟨l, o, rfl⟩
  · rw [addCopy_nil]
    exact h.snoc (piece_one hk)
  · by_cases hc : o.kind = kCopy ∧ o.a + o.n = (k : Int)
    · rw [addCopy_more l o k hc]
      obtain ⟨hkd, hak⟩ := hc
      obtain ⟨ha, hn⟩ := hok o (by simp) hkd
      have hkd2 : o.kind ≠ kData := by rw [hkd]; exact kc_ne
      have hp := pieceC_copy (old := old) (size := size) hkd2 (by rw [hak]; omega : ¬ (cntOf size old.length : Int) < o.a + o.n)
      have hp2 := pieceC_copy (old := old) (size := size) (o := ⟨o.kind, o.a, o.n + 1, o.data⟩) hkd2 (by show ¬ _ < o.a + (o.n + 1); omega)
      have h1 : Built old size l (catP old size l) := ⟨rfl, fun x hx => h.2 x (by simp [hx])⟩
      have h2 := h1.snoc hp2
      have hm := h.1
      rw [catP_append, catP_one, hp] at hm
      refine ⟨?_, h2.2⟩
      rw [h2.1, ← hm, List.append_assoc]
      congr 1
      have e1 : (o.n + 1).toNat * size = o.n.toNat * size + size := by
        rw [show (o.n + 1).toNat = o.n.toNat + 1 by omega, Nat.add_mul]; omega
      have e2 : k * size = o.a.toNat * size + o.n.toNat * size := by rw [← Nat.add_mul]; congr 1; omega
      show (old.drop (o.a.toNat * size)).take ((o.n + 1).toNat * size) = (old.drop (o.a.toNat * size)).take (o.n.toNat * size) ++ _
      rw [e1, e2, List.take_add, List.drop_drop]
    · rw [addCopy_new l o k hc]
      exact h.snoc (piece_one hk)
theorem Built.data {old : List UInt8} {size : Nat} {out : List POp} {m d : List UInt8} (h : Built old size out m) : Built old size (addData out d) (m ++ d) := by
  rcases nil_or_snoc out with rfl | ⟨l, o, rfl⟩
  · rw [addData_nil]
    exact h.snoc (pieceC_data rfl)
  · by_cases hc : o.kind = kData
    · rw [addData_more l o d hc]
      have hp := pieceC_data (old := old) (size := size) hc
      have hp2 := pieceC_data (old := old) (size := size) (o := ⟨o.kind, o.a, o.n, o.data ++ d⟩) hc
      have h1 : Built old size l (catP old size l) := ⟨rfl, fun x hx => h.2 x (by simp [hx])⟩
      have h2 := h1.snoc hp2
      have hm := h.1
      rw [catP_append, catP_one, hp] at hm
      refine ⟨?_, h2.2⟩
      rw [h2.1, ← hm, List.append_assoc]
    · rw [addData_new l o d hc]
      exact h.snoc (pieceC_data rfl)
theorem OkOut.signs {out : List POp} {i : Nat} (h : OkOut out i) : ∀ o ∈ out, o.kind = kCopy → 0 ≤ o.a ∧ 0 ≤ o.n := by
  intro o ho hk
  rcases h.2.2 o ho with h | h
  · exact ⟨h.2.2.1, by omega⟩
  · exact absurd (hk.symm.trans h.1) kc_ne
theorem built_mkA (old : List UInt8) (l : List Blk) (size : Nat) (S : List UInt8) (hz : 1 ≤ size) (hl : l.length ≤ 4000)
    (H : ∀ q, q < S.length → 0 ≤ findI l (blk ((S.drop q).take size)) → ∃ j : Nat, findI l (blk ((S.drop q).take size)) = j ∧ j + 1 ≤ cntOf size old.length ∧ (old.drop (j * size)).take size = (S.drop q).take size) :
    ∀ (f q : Nat) (out : List POp) (m : List UInt8), S.length ≤ f + q → OkOut out q → Built old size out m → Built old size (mkA l size f (S.drop q) out) (m ++ S.drop q)
  | f, q, out, m, hf, ho, hb => by
    by_cases hq : S.length ≤ q
    · rw [List.drop_eq_nil_of_le hq, mkA_end]
      simpa using hb
    · have hne : S.drop q ≠ [] := by intro h; have := congrArg List.length h; simp at this; omega
      cases f with
      | zero => omega
      | succ f =>
        by_cases hfi : 0 ≤ findI l (blk ((S.drop q).take size))
        · obtain ⟨j, e1, e2, e3⟩ := H q (by omega) hfi
          have hbd := findI_bd l (blk ((S.drop q).take size))
          rw [mkA_copy hne hfi, List.drop_drop]
          rw [e1] at hbd ⊢
          have b2 := hb.copy e2 ho.signs
          rw [e3] at b2
          have o2 := (ho.copy (k := (j : Int)) ⟨by omega, by omega⟩).mono (j := q + size) (by omega)
          have r1 := built_mkA old l size S hz hl H f (q + size) _ _ (by omega) o2 b2
          rw [List.append_assoc, ← List.drop_drop, List.take_append_drop] at r1
          rw [← List.drop_drop]; exact r1
        · rw [mkA_data hne hfi, List.drop_drop]
          have b2 := hb.data (d := (S.drop q).take 1)
          have o2 := ho.data (d := (S.drop q).take 1) (by simp; omega)
          have r1 := built_mkA old l size S hz hl H f (q + 1) _ _ (by omega) o2 b2
          rw [List.append_assoc, ← List.drop_drop, List.take_append_drop] at r1
          rw [← List.drop_drop]; exact r1
theorem built_mkOps (old : List UInt8) (l : List Blk) (size : Nat) (S : List UInt8) (hz : 1 ≤ size) (hl : l.length ≤ 4000)
    (H : ∀ q, q < S.length → 0 ≤ findI l (blk ((S.drop q).take size)) → ∃ j : Nat, findI l (blk ((S.drop q).take size)) = j ∧ j + 1 ≤ cntOf size old.length ∧ (old.drop (j * size)).take size = (S.drop q).take size) :
    Built old size (mkOps l size S) S := by
  have h := built_mkA old l size S hz hl H S.length 0 [] [] (by omega) (OkOut.nil 0) (Built.nil old size)
  unfold mkOps
  simpa using h
theorem appl_built {old S : List UInt8} {size : Nat} {l : List POp} (hz : 1 ≤ size) (hz2 : size ≤ 64) (ho : old.length ≤ 4000) (hS : S.length ≤ 4000) (hok : OkOut l S.length) (h : Built old size l S) : appl old size l = ((0, -1), S) := by
  have h1 := appl_fine (old := old) (size := (size : Int)) (l := l) ⟨⟨by omega, by omega⟩, ho⟩ (hok.chk hS) (by simpa using h.2) (by simpa [h.1] using hS)
  rw [h1]
  have : catP old (size : Int).toNat l = S := by simpa using h.1
  rw [this]
/-- unlike parts with like sums: none -/
def NoClash (old S : List UInt8) (size i : Nat) : Prop := ∀ k, k + ((old.drop (i * size)).take size).length ≤ S.length →
  (S.drop k).take ((old.drop (i * size)).take size).length ≠ (old.drop (i * size)).take size → ws ((S.drop k).take ((old.drop (i * size)).take size).length) = ws ((old.drop (i * size)).take size) →
  csum ((S.drop k).take ((old.drop (i * size)).take size).length) = csum ((old.drop (i * size)).take size) → False
theorem take_len (L : List UInt8) (n : Nat) : L.take (L.take n).length = L.take n := by
  rw [List.length_take]
  by_cases h : n ≤ L.length
  · rw [Nat.min_eq_left h]
  · rw [Nat.min_eq_right (by omega), List.take_length, List.take_of_length_le (by omega)]
theorem whole_fine (old S : List UInt8) (size : Nat) (hz : 1 ≤ size) (hz2 : size ≤ 64) (ho : old.length ≤ 4000) (hS : S.length ≤ 4000) (hc : ∀ i, i < cntOf size old.length → NoClash old S size i) :
    appl old size (mkOps (blks size old) size S) = ((0, -1), S) := by
  have hcl := cnt_le size old.length (by omega)
  have hbl := blks_len size old
  refine appl_built hz hz2 ho hS (mkOps_ok _ size S hz (by omega)) (built_mkOps old _ size S hz (by omega) ?_)
  intro q hq hfi
  obtain ⟨j, hj, e1, e2⟩ := findI_get hfi
  refine ⟨j, e1, by omega, ?_⟩
  rw [blks_get] at e2
  rw [blk_is, blk_is] at e2
  injection e2 with f1 f2 f3
  have g1 : ((old.drop (j * size)).take size).length = ((S.drop q).take size).length := by omega
  have g2 : ws ((old.drop (j * size)).take size) = ws ((S.drop q).take size) := by omega
  refine Classical.byContradiction fun hne => ?_
  refine hc j (by omega) q ?_ ?_ ?_ ?_
  · rw [g1]; simp; omega
  · rw [g1, take_len]; exact fun h => hne h.symm
  · rw [g1, take_len]; exact g2.symm
  · rw [g1, take_len]; exact f3.symm
theorem findI_nil (x : Blk) : findI [] x = -1 := by have := findB_none [] x 0 (by simp); unfold findI; exact this
theorem whole_nil (S : List UInt8) (size : Nat) (hz : 1 ≤ size) (hz2 : size ≤ 64) (hS : S.length ≤ 4000) : appl [] size (mkOps [] size S) = ((0, -1), S) := by
  refine appl_built hz hz2 (by simp) hS (mkOps_ok _ size S hz (by simp)) (built_mkOps [] [] size S hz (by simp) ?_)
  intro q _ h
  rw [findI_nil] at h
  omega
theorem cost_nil (size : Nat) : ∀ (f : Nat) (s : List UInt8) (out : List POp), s.length ≤ f → costN (mkA [] size f s out) = costN out + s.length
  | 0, s, out, h => by rw [mkA_zero]; omega
  | f + 1, s, out, h => by
    by_cases hs : s = []
    · subst hs; rw [mkA_end]; simp
    · have hp : 0 < s.length := List.length_pos_iff.2 hs
      rw [mkA_data hs (by rw [findI_nil]; omega), cost_nil size f _ _ (by rw [List.length_drop]; omega), costN_data, List.length_take, List.length_drop]
      omega
theorem mkOps_nil_cost (size : Nat) (S : List UInt8) : costN (mkOps [] size S) = S.length := by
  unfold mkOps
  rw [cost_nil size _ _ _ (Nat.le_refl _), costN_nil]; omega
/-- what Whole tells -/
def whC (old : List UInt8) (size : Int) (l : List POp) (n c : Int) : Nat × Int := if (appl old size l).1.1 ≠ 0 then (appl old size l).1 else if ((appl old size l).2.length : Int) = n ∧ (csum (appl old size l).2 : Int) = c then (0, -1) else (10, -1)
def whL (old : List UInt8) (size : Int) (l : List POp) (n c : Int) : List UInt8 := if (whC old size l n c).1 = 0 then (appl old size l).2 else []
theorem wh_bad {old : List UInt8} {size : Int} {l : List POp} {n c : Int} (h : (appl old size l).1.1 ≠ 0) : whC old size l n c = (appl old size l).1 ∧ whL old size l n c = [] := by
  have e : whC old size l n c = (appl old size l).1 := by unfold whC; rw [if_pos h]
  exact ⟨e, by unfold whL; rw [e, if_neg h]⟩
theorem wh_fine {old : List UInt8} {size : Int} {l : List POp} {n c : Int} (h : (appl old size l).1.1 = 0) (h2 : ((appl old size l).2.length : Int) = n ∧ (csum (appl old size l).2 : Int) = c) : whC old size l n c = (0, -1) ∧ whL old size l n c = (appl old size l).2 := by
  have e : whC old size l n c = (0, -1) := by unfold whC; rw [if_neg (by simp [h]), if_pos h2]
  exact ⟨e, by unfold whL; rw [e, if_pos rfl]⟩
theorem wh_sum {old : List UInt8} {size : Int} {l : List POp} {n c : Int} (h : (appl old size l).1.1 = 0) (h2 : ¬ (((appl old size l).2.length : Int) = n ∧ (csum (appl old size l).2 : Int) = c)) : whC old size l n c = (10, -1) ∧ whL old size l n c = [] := by
  have e : whC old size l n c = (10, -1) := by unfold whC; rw [if_neg (by simp [h]), if_neg h2]
  exact ⟨e, by unfold whL; rw [e, if_neg (by decide)]⟩
attribute [irreducible] whC whL
end Go.Proofs.YtphigoclkkgpoaaDoor
