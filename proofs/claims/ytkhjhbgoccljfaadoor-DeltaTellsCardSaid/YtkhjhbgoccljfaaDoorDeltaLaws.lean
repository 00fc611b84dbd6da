/- Plain laws of deltas: what data costs; blocks that are there twice. -/
import Derived.Test.YtkhjhbgoccljfaaDoorMake
namespace Go.Proofs.YtkhjhbgoccljfaaDoor
open Go.RowKit
set_option linter.unusedVariables false

theorem costN_copy (out : List POp) (k : Int) : costN (addCopy out k) = costN out := by
  rcases split_last out with rfl | ⟨m, o, rfl⟩
  · rw [addCopy_nil, costN_append, costN_one]; simp
  · by_cases hc : o.kind = kCopy ∧ o.a + o.n = k
    · rw [addCopy_more m o k hc, costN_append, costN_append, costN_one, costN_one]
    · rw [addCopy_new m o k hc, costN_append, costN_one]; simp
theorem costN_data (out : List POp) (d : List UInt8) : costN (addData out d) = costN out + d.length := by
  rcases split_last out with rfl | ⟨m, o, rfl⟩
  · rw [addData_nil, costN_append, costN_one]
  · by_cases hc : o.kind = kData
    · rw [addData_more m o d hc, costN_append, costN_append, costN_one, costN_one]; simp; omega
    · rw [addData_new m o d hc, costN_append, costN_one]
theorem mkA_zero (l : List Blk) (size : Nat) (s : List UInt8) (out : List POp) : mkA l size 0 s out = out := by unfold mkA; rfl
theorem cost_mkA (l : List Blk) (size : Nat) : ∀ (f : Nat) (s : List UInt8) (out : List POp), costN (mkA l size f s out) ≤ costN out + s.length
  | 0, s, out => by rw [mkA_zero]; omega
  | f + 1, s, out => by
    by_cases hs : s = []
    · subst hs; rw [mkA_end]; omega
    · by_cases h : 0 ≤ findI l (blk (s.take size))
      · rw [mkA_copy hs h]
        have := cost_mkA l size f (s.drop size) (addCopy out (findI l (blk (s.take size))))
        rw [costN_copy, List.length_drop] at this
        omega
      · rw [mkA_data hs h]
        have := cost_mkA l size f (s.drop 1) (addData out (s.take 1))
        rw [costN_data] at this
        have hl : 0 < s.length := List.length_pos_iff.2 hs
        rw [List.length_take, List.length_drop] at this; omega
theorem mkOps_cost (l : List Blk) (size : Nat) (s : List UInt8) : costN (mkOps l size s) ≤ s.length := by
  have := cost_mkA l size s.length s []
  unfold mkOps
  rw [costN_nil] at this; omega
theorem mkA_ok (l : List Blk) (size : Nat) (hz : 1 ≤ size) (hl : l.length ≤ 4000) : ∀ (f : Nat) (s : List UInt8) (out : List POp) (i : Nat), OkOut out i → OkOut (mkA l size f s out) (i + s.length)
  | 0, s, out, i, h => by rw [mkA_zero]; exact h.mono (by omega)
  | f + 1, s, out, i, h => by
    by_cases hs : s = []
    · subst hs; rw [mkA_end]; exact h.mono (by omega)
    · have hp : 0 < s.length := List.length_pos_iff.2 hs
      by_cases hf : 0 ≤ findI l (blk (s.take size))
      · rw [mkA_copy hs hf]
        have hb := findI_bd l (blk (s.take size))
        exact (mkA_ok l size hz hl f (s.drop size) _ (i + 1) (h.copy ⟨hf, by omega⟩)).mono (by simp; omega)
      · rw [mkA_data hs hf]
        exact (mkA_ok l size hz hl f (s.drop 1) _ (i + 1) (h.data (by simp; omega))).mono (by simp; omega)
theorem mkOps_ok (l : List Blk) (size : Nat) (s : List UInt8) (hz : 1 ≤ size) (hl : l.length ≤ 4000) : OkOut (mkOps l size s) s.length := by
  have := mkA_ok l size hz hl s.length s [] 0 (OkOut.nil 0)
  unfold mkOps; rw [Nat.zero_add] at this; exact this

theorem findB_no (l : List Blk) (x : Blk) (i : Nat) (h : ¬ 0 ≤ findB l x i) : findB l x i = -1 ∧ ∀ b ∈ l, b ≠ x := by
  induction l generalizing i with
  | nil => exact ⟨by have := (findB_bd [] x i).1; omega, by simp⟩
  | cons b l ih =>
    rw [findB_cons] at h ⊢
    split at h
    · omega
    · rename_i hb
      obtain ⟨h1, h2⟩ := ih (i + 1) h
      rw [if_neg hb]
      refine ⟨h1, fun c hc => ?_⟩
      rcases List.mem_cons.1 hc with rfl | hc
      · exact hb
      · exact h2 c hc
theorem findB_none (l : List Blk) (x : Blk) (i : Nat) (h : ∀ b ∈ l, b ≠ x) : findB l x i = -1 := by
  induction l generalizing i with
  | nil => have := findB_end ([] : List Blk) x i (by simp); simpa using this
  | cons b l ih => rw [findB_cons, if_neg (h b (by simp))]; exact ih (i + 1) (fun c hc => h c (by simp [hc]))
theorem findB_twice (a b : List Blk) (x : Blk) : ∀ i, 0 ≤ findB a x i → findB (a ++ b) x i = findB a x i := by
  induction a with
  | nil => intro i h; have := findB_none [] x i (by simp); omega
  | cons c a ih =>
    intro i h
    rw [List.cons_append, findB_cons, findB_cons] at *
    split
    · rfl
    · rename_i hc; rw [if_neg hc] at h; exact ih (i + 1) h
theorem findI_twice (l : List Blk) (x : Blk) : findI (l ++ l) x = findI l x := by
  unfold findI
  by_cases h : 0 ≤ findB l x 0
  · exact findB_twice l l x 0 h
  · obtain ⟨h1, h2⟩ := findB_no l x 0 h
    rw [h1]
    exact findB_none _ _ _ (fun b hb => by rcases List.mem_append.1 hb with h | h <;> exact h2 b h)
theorem mkA_twice (l : List Blk) (size : Nat) : ∀ (f : Nat) (s : List UInt8) (out : List POp), mkA (l ++ l) size f s out = mkA l size f s out
  | 0, s, out => by rw [mkA_zero, mkA_zero]
  | f + 1, s, out => by
    by_cases hs : s = []
    · subst hs; rw [mkA_end, mkA_end]
    · by_cases h : 0 ≤ findI l (blk (s.take size))
      · rw [mkA_copy hs h, mkA_copy hs (by rw [findI_twice]; exact h), findI_twice]; exact mkA_twice l size f _ _
      · rw [mkA_data hs h, mkA_data hs (by rw [findI_twice]; exact h)]; exact mkA_twice l size f _ _
theorem mkOps_twice (l : List Blk) (size : Nat) (s : List UInt8) : mkOps (l ++ l) size s = mkOps l size s := mkA_twice l size _ _ _

theorem findB_has (l : List Blk) (x : Blk) (i : Nat) (h : x ∈ l) : 0 ≤ findB l x i := by
  by_cases hf : 0 ≤ findB l x i
  · exact hf
  · exact absurd rfl ((findB_no l x i hf).2 x h)
theorem findI_has (l : List Blk) (x : Blk) (h : x ∈ l) : 0 ≤ findI l x := findB_has l x 0 h
theorem blks_mem (size : Nat) (L : List UInt8) (k : Nat) (hs : 0 < size) (h : k * size < L.length) : blk ((L.drop (k * size)).take size) ∈ blks size L := by
  have hk : k < (blks size L).length := by
    rw [blks_len]
    unfold cntOf
    rw [Nat.lt_iff_add_one_le, Nat.le_div_iff_mul_le hs, Nat.add_mul]; omega
  rw [← blks_get size L k hk]
  exact List.getElem_mem hk
/-- of a file that goes on only what is new is data -/
theorem cost_goes_on (size : Nat) (L M : List UInt8) (q : Nat) (hs : 0 < size) (hq : L.length = q * size) : ∀ (j : Nat), j ≤ q → ∀ (f : Nat) (out : List POp), costN (mkA (blks size L) size f ((L ++ M).drop ((q - j) * size)) out) ≤ costN out + M.length
  | 0, _, f, out => by
    have := cost_mkA (blks size L) size f ((L ++ M).drop ((q - 0) * size)) out
    simp at this
    rw [Nat.sub_zero]; omega
  | j + 1, hj, 0, out => by rw [mkA_zero]; omega
  | j + 1, hj, f + 1, out => by
    have e : (q - j) * size = (q - (j + 1)) * size + size := by
      rw [show q - j = (q - (j + 1)) + 1 by omega, Nat.add_mul]; omega
    have hlt : (q - (j + 1)) * size + size ≤ L.length := by
      rw [← e, hq]; exact Nat.mul_le_mul_right _ (by omega)
    have hne : (L ++ M).drop ((q - (j + 1)) * size) ≠ [] := by
      intro h; have := congrArg List.length h; simp at this; omega
    have ht : ((L ++ M).drop ((q - (j + 1)) * size)).take size = (L.drop ((q - (j + 1)) * size)).take size := by
      rw [List.drop_append_of_le_length (by omega), List.take_append_of_le_length (by simp; omega)]
    have hm := findI_has _ _ (blks_mem size L (q - (j + 1)) hs (by omega))
    rw [← ht] at hm
    rw [mkA_copy hne hm, List.drop_drop, ← e]
    have := cost_goes_on size L M q hs hq j (by omega) f (addCopy out (findI (blks size L) (blk (((L ++ M).drop ((q - (j + 1)) * size)).take size))))
    rw [costN_copy] at this
    exact this
theorem mkOps_goes_on (size : Nat) (L M : List UInt8) (q : Nat) (hs : 0 < size) (hq : L.length = q * size) : costN (mkOps (blks size L) size (L ++ M)) ≤ M.length := by
  have := cost_goes_on size L M q hs hq q (Nat.le_refl _) (L ++ M).length []
  rw [Nat.sub_self, Nat.zero_mul, List.drop_zero, costN_nil] at this
  unfold mkOps; omega
theorem chkA_full_all (size : Int) (h1 : 1 ≤ size) : ∀ (l : List Blk) (i : Nat) (all : Int), (∀ b ∈ l, b.N = size ∧ 0 ≤ b.W ∧ b.W < 4294967296) → all + l.length * size ≤ 4000 → chkA size l i all = (0, -1)
  | [], i, all, _, _ => by rw [chkA]
  | b :: l, i, all, h, ha => by
    have hb := h b (by simp)
    have e : ((b :: l).length : Int) * size = l.length * size + size := by simp only [List.length_cons]; rw [Int.natCast_add, Int.add_mul]; omega
    have hp : 0 ≤ (l.length : Int) * size := Int.mul_nonneg (by omega) (by omega)
    rw [e] at ha
    rw [chkA, if_neg (by unfold badB; omega), if_neg (by rw [hb.1]; omega)]
    exact chkA_full_all size h1 l (i + 1) _ (fun c hc => h c (by simp [hc])) (by rw [hb.1]; omega)
theorem blks_full (size : Nat) (L : List UInt8) (q : Nat) (hs : 0 < size) (hq : L.length = q * size) : ∀ b ∈ blks size L, b.N = size ∧ 0 ≤ b.W ∧ b.W < 4294967296 := by
  intro b hb
  obtain ⟨k, hk, rfl⟩ := List.getElem_of_mem hb
  rw [blks_get]
  rw [blks_len] at hk
  have hc : cntOf size L.length = q := cnt_is (by omega) (by omega)
  rw [hc] at hk
  have : (k + 1) * size ≤ q * size := Nat.mul_le_mul_right _ (by omega)
  rw [Nat.add_mul] at this
  have hw := ws_bd ((L.drop (k * size)).take size)
  rw [blk_is]
  refine ⟨?_, hw.1, hw.2⟩
  simp; omega
theorem twice_chk (size : Nat) (L : List UInt8) (q : Nat) (h1 : 1 ≤ size) (h2 : size ≤ 64) (hq : L.length = q * size) (hL : L.length ≤ 1000) : chk (blks size L ++ blks size L) size = (0, -1) := by
  rw [chk_yes (by omega)]
  have hc : (blks size L).length = q := by rw [blks_len]; exact cnt_is (by omega) (by omega)
  refine chkA_full_all size (by omega) _ _ _ (fun b hb => by rcases List.mem_append.1 hb with h | h <;> exact blks_full size L q h1 hq b h) ?_
  rw [List.length_append, hc]
  have : ((q + q : Nat) : Int) * (size : Int) = ((q * size + q * size : Nat) : Int) := by rw [← Int.natCast_mul, Nat.add_mul]
  rw [this]; omega
theorem made_data : mkOps (blks 3 [97, 98, 99, 100, 101, 102]) 3 [120, 97, 98, 99, 100, 101, 102] = [⟨kData, 0, 0, [120]⟩, ⟨kCopy, 0, 2, []⟩] := by decide +kernel
end Go.Proofs.YtkhjhbgoccljfaaDoor
