/- Plain laws: a file's blocks are well; a signature is read as it was written; each block is found. -/
import Derived.Test.YtkhjhbgoccljfaaDoorSignRead
namespace Go.Proofs.YtkhjhbgoccljfaaDoor
open Go.RowKit

theorem cell_kept {w w' : World} {a : Addr} {v : Value} (h : w.cell? a = some v) (hb : Below w.heap.size w w') : w'.cell? a = some v := (hb.cell (World.block_lt_of_cell? w _ h)).trans h
theorem blks_get (size : Nat) (L : List UInt8) (k : Nat) (h : k < (blks size L).length) : (blks size L)[k] = blk ((L.drop (k * size)).take size) := by
  have hk : k < cntOf size L.length := by rw [← blks_len]; exact h
  have h2 : (blks size L)[k]? = some (blk ((L.drop (k * size)).take size)) := by unfold blks blksN; rw [List.getElem?_map, List.getElem?_range hk]; rfl
  exact (List.getElem_eq_iff h).2 h2
theorem cnt_lt {size len k : Nat} (hs : 0 < size) (h : k < cntOf size len) : k * size < len := by
  unfold cntOf at h
  have h1 := (Nat.le_div_iff_mul_le hs).1 (show k + 1 ≤ (len + size - 1) / size by omega)
  rw [Nat.add_mul] at h1
  omega
theorem cnt_last {size len k : Nat} (hs : 0 < size) (h : k + 1 = cntOf size len) : len ≤ (k + 1) * size := by
  unfold cntOf at h
  have h1 := Nat.lt_mul_div_succ (len + size - 1) hs
  rw [← h, Nat.mul_comm] at h1
  rw [Nat.add_mul] at h1 ⊢
  rw [Nat.add_mul] at h1
  omega
/-- where a block begins -/
def offN (size len k : Nat) : Nat := if k * size ≤ len then k * size else len
theorem offN_lt {size len k : Nat} (hs : 0 < size) (h : k < cntOf size len) : offN size len k = k * size := by
  have := cnt_lt hs h; unfold offN; rw [if_pos (by omega)]
theorem offN_end {size len : Nat} (hs : 0 < size) : offN size len (cntOf size len) = len := by
  unfold offN
  by_cases h : cntOf size len = 0
  · rw [h, if_pos (by omega)]
    unfold cntOf at h
    have := Nat.lt_mul_div_succ (len + size - 1) hs
    rw [h] at this; omega
  · have h1 := cnt_last (size := size) (len := len) hs (k := cntOf size len - 1) (by omega)
    rw [show cntOf size len - 1 + 1 = cntOf size len by omega] at h1
    split <;> omega
theorem blkN (size : Nat) (L : List UInt8) (k : Nat) (hs : 0 < size) (h : k < cntOf size L.length) :
    (blk ((L.drop (k * size)).take size)).N = ((offN size L.length (k + 1) - offN size L.length k : Nat) : Int) ∧ 1 ≤ offN size L.length (k + 1) - offN size L.length k ∧ offN size L.length (k + 1) - offN size L.length k ≤ size ∧
      offN size L.length k ≤ offN size L.length (k + 1) ∧ offN size L.length (k + 1) ≤ L.length ∧ (k + 1 ≠ cntOf size L.length → offN size L.length (k + 1) - offN size L.length k = size) := by
  have h1 := cnt_lt hs h
  have h2 := offN_lt (len := L.length) hs h
  have h3 : (k + 1) * size = k * size + size := by rw [Nat.add_mul]; omega
  have h4 : k + 1 ≠ cntOf size L.length → (k + 1) * size ≤ L.length := fun hne => by
    have := cnt_lt (size := size) (len := L.length) (k := k + 1) hs (by omega); omega
  rw [h2]
  rw [blk_is]
  simp only [List.length_take, List.length_drop]
  unfold offN
  rw [h3] at h4 ⊢
  split
  · refine ⟨by omega, by omega, by omega, by omega, by omega, fun _ => by omega⟩
  · refine ⟨by omega, by omega, by omega, by omega, by omega, fun h => by have := h4 h; omega⟩

theorem blks_chk (size : Nat) (L : List UInt8) (h1 : 1 ≤ size) (h2 : size ≤ 64) (hL : L.length ≤ 4000) : chk (blks size L) size = (0, -1) := by
  rw [chk_yes (by omega)]
  have H : ∀ j k, k + j = (blks size L).length → chkA size ((blks size L).drop k) k (offN size L.length k) = (0, -1) := by
    intro j
    induction j with
    | zero => intro k hk; exact chkA_end (by omega)
    | succ j ih =>
      intro k hk
      have hlt : k < (blks size L).length := by omega
      have hc : k < cntOf size L.length := by rw [← blks_len]; exact hlt
      obtain ⟨q1, q2, q3, q4, q5, q6⟩ := blkN size L k h1 hc
      have hb := blks_get size L k hlt
      have hw := ws_bd ((L.drop (k * size)).take size)
      have hN : ((blks size L)[k]).N = ((offN size L.length (k + 1) - offN size L.length k : Nat) : Int) := by rw [hb]; exact q1
      have hW : ((blks size L)[k]).W = ws ((L.drop (k * size)).take size) := by rw [hb, blk_is]
      rw [chkA_next hlt]
      · have := ih (k + 1) (by omega)
        rw [hN]
        have e : (offN size L.length k : Int) + ((offN size L.length (k + 1) - offN size L.length k : Nat) : Int) = (offN size L.length (k + 1) : Int) := by omega
        rw [e]; exact this
      · intro hbad
        unfold badB at hbad
        rw [hN, hW] at hbad
        rw [blks_len] at hbad
        rcases hbad with h | h | ⟨h, h'⟩ | h | h
        · omega
        · omega
        · have := q6 (by simp at h'; omega); omega
        · omega
        · omega
      · rw [hN]; omega
  have := H (blks size L).length 0 (by omega)
  simpa [offN] using this
theorem blks_S (size : Nat) (L : List UInt8) : ∀ b ∈ blks size L, b.S < 4294967296 := by
  intro b hb
  obtain ⟨k, hk, rfl⟩ := List.getElem_of_mem hb
  rw [blks_get, blk_is]
  exact csum_lt _

theorem rd_num (n : Nat) (more : List UInt8) (h : n ≤ 1099511627776) : rnN (num n ++ more) 0 = n ∧ rnR (num n ++ more) 0 = more ∧ rnC (num n ++ more) 0 = 0 := by
  rw [(rn_zero _).1, (rn_zero _).2.1, (rn_zero _).2.2]
  exact ⟨gN_num n more h, gR_num n more h, gC_num n more h⟩
theorem rdBlk_text (b : Blk) (more : List UInt8) (h : 1 ≤ b.N ∧ b.N ≤ 64 ∧ 0 ≤ b.W ∧ b.W < 4294967296) (hS : b.S < 4294967296) : rdBlk (num b.N.toNat ++ num b.W.toNat ++ num b.S ++ more) = (b, more, 0) := by
  have e : num b.N.toNat ++ num b.W.toNat ++ num b.S ++ more = num b.N.toNat ++ (num b.W.toNat ++ (num b.S ++ more)) := by simp
  rw [e]
  obtain ⟨p1, p2, p3⟩ := rd_num b.N.toNat (num b.W.toNat ++ (num b.S ++ more)) (by omega)
  obtain ⟨q1, q2, q3⟩ := rd_num b.W.toNat (num b.S ++ more) (by omega)
  obtain ⟨r1, r2, r3⟩ := rd_num b.S more (by omega)
  rw [rdBlk_is _ _ _ _ _ p2 p3 q2 q3, p1, q1, r1, r2, r3]
  rw [if_neg (by omega)]
  have e1 : ((b.N.toNat : Nat) : Int) = b.N := by omega
  have e2 : ((b.W.toNat : Nat) : Int) = b.W := by omega
  have e3 : b.S % 4294967296 = b.S := by omega
  rw [e1, e2, e3]
theorem rdLoop_text : ∀ (l : List Blk) (out : List Blk) (more : List UInt8), (∀ b ∈ l, 1 ≤ b.N ∧ b.N ≤ 64 ∧ 0 ≤ b.W ∧ b.W < 4294967296) → (∀ b ∈ l, b.S < 4294967296) → rdLoop l.length (bText l ++ more) 0 out = (out ++ l, more, 0)
  | [], out, more, _, _ => by simp [bText_nil, rdLoop_end]
  | b :: l, out, more, h, hS => by
    rw [bText_cons, List.append_assoc]
    rw [rdLoop_step (by simp), rdBlk_text b _ (h b (by simp)) (hS b (by simp))]
    simp only [List.length_cons, Nat.add_sub_cancel]
    rw [rdLoop_text l _ more (fun x hx => h x (by simp [hx])) (fun x hx => hS x (by simp [hx]))]
    simp
theorem read_text (l : List Blk) (size : Nat) (hc : (chk l size).1 = 0) (hS : ∀ b ∈ l, b.S < 4294967296) : readSg (sText l size) = (l, size, 0) := by
  obtain ⟨k1, k2, k3, k4⟩ := chk_ok hc
  have e : sText l size = num size ++ (num l.length ++ (bText l ++ [])) := by rw [sText_is]; simp
  obtain ⟨p1, p2, p3⟩ := rd_num size (num l.length ++ (bText l ++ [])) (by omega)
  obtain ⟨q1, q2, q3⟩ := rd_num l.length (bText l ++ []) (by omega)
  have hr : rd0 (sText l size) = (l, [], 0) := by
    rw [e, rd0_is p2 p3 q2 q3, q1, rdLoop_text l [] [] (fun b hb => by have := k4 b hb; omega) hS]; simp
  have hn : rnN (sText l size) 0 = size := by rw [e]; exact p1
  have := readSg_ok hr rEnd_nil (by rw [hn]; exact hc)
  rw [this, hn]

theorem findB_le : ∀ (l : List Blk) (x : Blk) (i j : Nat) (h : j < l.length), l[j] = x → (i : Int) ≤ findB l x i ∧ findB l x i ≤ i + j
  | [], x, i, j, h, _ => by simp at h
  | b :: l, x, i, j, h, e => by
    rw [findB_cons]
    split
    · omega
    · rename_i hb
      cases j with
      | zero => simp at e; exact absurd e hb
      | succ j =>
        have := findB_le l x (i + 1) j (by simpa using h) (by simpa using e)
        omega
theorem findI_le (l : List Blk) (x : Blk) (j : Nat) (h : j < l.length) (e : l[j] = x) : 0 ≤ findI l x ∧ findI l x ≤ j := by
  have := findB_le l x 0 j h e
  unfold findI; omega
end Go.Proofs.YtkhjhbgoccljfaaDoor
