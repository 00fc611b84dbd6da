/- Plain laws of frames. -/
import Derived.Test.YtkojhnmchbhbbaaDoorNumRW
import Derived.Test.YtkojhnmchbhbbaaDoorCrc
namespace Go.Proofs.YtkojhnmchbhbbaaDoor
open Go.RowKit
set_option linter.unusedVariables false

structure PFr where
  k : UInt8
  e : Int
  q : Int
  d : List UInt8
deriving DecidableEq
def zfr : PFr := ⟨0, 0, 0, []⟩
def frC (f : PFr) : Nat := if ¬ (97 ≤ f.k.toNat ∧ f.k.toNat ≤ 122) then 4 else if (0 ≤ f.e ∧ f.e ≤ 2147483648) ∧ (0 ≤ f.q ∧ f.q < 65536) ∧ f.d.length ≤ 20000 then 0 else 2
theorem frC_kind {f : PFr} (h : ¬ (97 ≤ f.k.toNat ∧ f.k.toNat ≤ 122)) : frC f = 4 := by unfold frC; rw [if_pos h]
theorem frC_fine {f : PFr} (h : 97 ≤ f.k.toNat ∧ f.k.toNat ≤ 122) (h2 : (0 ≤ f.e ∧ f.e ≤ 2147483648) ∧ (0 ≤ f.q ∧ f.q < 65536) ∧ f.d.length ≤ 20000) : frC f = 0 := by unfold frC; rw [if_neg (by simpa using h), if_pos h2]
theorem frC_bound {f : PFr} (h : 97 ≤ f.k.toNat ∧ f.k.toNat ≤ 122) (h2 : ¬ ((0 ≤ f.e ∧ f.e ≤ 2147483648) ∧ (0 ≤ f.q ∧ f.q < 65536) ∧ f.d.length ≤ 20000)) : frC f = 2 := by unfold frC; rw [if_neg (by simpa using h), if_neg h2]
theorem frC_zero {f : PFr} (h : frC f = 0) : (97 ≤ f.k.toNat ∧ f.k.toNat ≤ 122) ∧ (0 ≤ f.e ∧ f.e ≤ 2147483648) ∧ (0 ≤ f.q ∧ f.q < 65536) ∧ f.d.length ≤ 20000 := by
  by_cases h1 : 97 ≤ f.k.toNat ∧ f.k.toNat ≤ 122
  · by_cases h2 : (0 ≤ f.e ∧ f.e ≤ 2147483648) ∧ (0 ≤ f.q ∧ f.q < 65536) ∧ f.d.length ≤ 20000
    · exact ⟨h1, h2⟩
    · rw [frC_bound h1 h2] at h; simp at h
  · rw [frC_kind h1] at h; simp at h
/-- four bytes of a sum, low ones first -/
def lowL (v : Nat) : List UInt8 := [UInt8.ofNat (v % 256), UInt8.ofNat (v / 256 % 256), UInt8.ofNat (v / 65536 % 256), UInt8.ofNat (v / 16777216 % 256)]
theorem lowL_len (v : Nat) : (lowL v).length = 4 := rfl
theorem ofNat_inj {a b : Nat} (ha : a < 256) (hb : b < 256) (h : UInt8.ofNat a = UInt8.ofNat b) : a = b := by
  have := congrArg UInt8.toNat h
  rw [byte_ofNat a ha, byte_ofNat b hb] at this
  exact this
theorem lowL_inj {a b : Nat} (ha : a < 4294967296) (hb : b < 4294967296) (h : lowL a = lowL b) : a = b := by
  unfold lowL at h
  simp only [List.cons.injEq, and_true] at h
  obtain ⟨h0, h1, h2, h3⟩ := h
  have h0 := ofNat_inj (by omega) (by omega) h0
  have h1 := ofNat_inj (by omega) (by omega) h1
  have h2 := ofNat_inj (by omega) (by omega) h2
  have h3 := ofNat_inj (by omega) (by omega) h3
  omega
/-- a frame's bytes ahead of its sum; all of them -/
def frB (f : PFr) : List UInt8 := f.k :: (num f.e.toNat ++ num f.q.toNat ++ (num f.d.length ++ f.d))
def frT (f : PFr) : List UInt8 := frB f ++ lowL (csum (frB f))
theorem frB_is (f : PFr) : frB f = f.k :: (num f.e.toNat ++ num f.q.toNat ++ (num f.d.length ++ f.d)) := rfl
theorem frT_is (f : PFr) : frT f = frB f ++ lowL (csum (frB f)) := rfl
/-- what a reader of a frame reads -/
def rdF (k : UInt8) (l : List UInt8) : PFr × Nat :=
  let l1 := rnR l 0; let c1 := rnC l 0; let l2 := rnR l1 c1; let c2 := rnC l1 c1
  (⟨k, rnN l 0, rnN l1 c1, rtT l2 c2⟩, rEnd (rtR l2 c2) (rtC l2 c2))
theorem rdF_is (k : UInt8) {l l1 l2 l3 : List UInt8} {c1 c2 c3 : Nat} (h1 : rnR l 0 = l1) (h2 : rnC l 0 = c1) (h3 : rnR l1 c1 = l2) (h4 : rnC l1 c1 = c2) (h5 : rtR l2 c2 = l3) (h6 : rtC l2 c2 = c3) : rdF k l = (⟨k, rnN l 0, rnN l1 c1, rtT l2 c2⟩, rEnd l3 c3) := by
  subst h1 h2 h3 h4 h5 h6; rfl
def decF (L : List UInt8) : PFr × Nat :=
  if L.length < 4 then (zfr, 1)
  else if lowL (csum (L.take (L.length - 4))) ≠ L.drop (L.length - 4) then (zfr, 10)
  else match L.take (L.length - 4) with
    | [] => (zfr, 1)
    | k :: l => if (rdF k l).2 ≠ 0 then (zfr, (rdF k l).2) else if frC (rdF k l).1 ≠ 0 then (zfr, frC (rdF k l).1) else ((rdF k l).1, 0)
theorem decF_short {L : List UInt8} (h : L.length < 4) : decF L = (zfr, 1) := by unfold decF; rw [if_pos h]
theorem decF_sum {L : List UInt8} (h : ¬ L.length < 4) (h2 : lowL (csum (L.take (L.length - 4))) ≠ L.drop (L.length - 4)) : decF L = (zfr, 10) := by unfold decF; rw [if_neg h, if_pos h2]
theorem decF_none {L : List UInt8} (h : L.length = 4) (h2 : lowL (csum (L.take (L.length - 4))) = L.drop (L.length - 4)) : decF L = (zfr, 1) := by
  unfold decF
  rw [if_neg (by omega), if_neg (by simpa using h2)]
  have e : L.take (L.length - 4) = [] := by rw [h]; rfl
  rw [e]
theorem decF_end {L l : List UInt8} {k : UInt8} {f : PFr} {c : Nat} (h : ¬ L.length < 4) (h2 : lowL (csum (L.take (L.length - 4))) = L.drop (L.length - 4)) (h3 : L.take (L.length - 4) = k :: l) (hr : rdF k l = (f, c)) (hc : c ≠ 0) : decF L = (zfr, c) := by
  unfold decF
  rw [if_neg h, if_neg (by simpa using h2), h3]
  simp only [hr]
  rw [if_pos hc]
theorem decF_bad {L l : List UInt8} {k : UInt8} {f : PFr} {c : Nat} (h : ¬ L.length < 4) (h2 : lowL (csum (L.take (L.length - 4))) = L.drop (L.length - 4)) (h3 : L.take (L.length - 4) = k :: l) (hr : rdF k l = (f, c)) (hc : c = 0) (hf : frC f ≠ 0) : decF L = (zfr, frC f) := by
  unfold decF
  rw [if_neg h, if_neg (by simpa using h2), h3]
  simp only [hr]
  rw [if_neg (by simp [hc]), if_pos hf]
theorem decF_fine {L l : List UInt8} {k : UInt8} {f : PFr} {c : Nat} (h : ¬ L.length < 4) (h2 : lowL (csum (L.take (L.length - 4))) = L.drop (L.length - 4)) (h3 : L.take (L.length - 4) = k :: l) (hr : rdF k l = (f, c)) (hc : c = 0) (hf : frC f = 0) : decF L = (f, 0) := by
  unfold decF
  rw [if_neg h, if_neg (by simpa using h2), h3]
  simp only [hr]
  rw [if_neg (by simp [hc]), if_neg (by simp [hf])]

/-! ### read as it was written -/
theorem rn_num' (n : Nat) (more : List UInt8) (h : n ≤ 1099511627776) : rnN (num n ++ more) 0 = n ∧ rnR (num n ++ more) 0 = more ∧ rnC (num n ++ more) 0 = 0 := by
  obtain ⟨a, b, c⟩ := rn_zero (num n ++ more)
  rw [a, b, c, gN_num n more h, gR_num n more h, gC_num n more h]
  exact ⟨rfl, rfl, rfl⟩
theorem dec_enc (f : PFr) (h : frC f = 0) : decF (frT f) = (f, 0) := by
  obtain ⟨hk, ⟨he1, he2⟩, ⟨hq1, hq2⟩, hd⟩ := frC_zero h
  have hl : (frT f).length = (frB f).length + 4 := by rw [frT_is, List.length_append, lowL_len]
  have ht : (frT f).take ((frT f).length - 4) = frB f := by rw [hl, frT_is]; simp
  have hdp : (frT f).drop ((frT f).length - 4) = lowL (csum (frB f)) := by rw [hl, frT_is]; simp
  obtain ⟨a1, a2, a3⟩ := rn_num' f.e.toNat (num f.q.toNat ++ (num f.d.length ++ f.d)) (by omega)
  obtain ⟨b1, b2, b3⟩ := rn_num' f.q.toNat (num f.d.length ++ f.d) (by omega)
  obtain ⟨c1, c2, c3⟩ := t_text f.d [] hd
  rw [List.append_nil] at c1 c2 c3
  have d1 := (rt_zero (num f.d.length ++ f.d)).1.trans c2
  have d2 := (rt_zero (num f.d.length ++ f.d)).2.1.trans c3
  have d3 := (rt_zero (num f.d.length ++ f.d)).2.2.trans c1
  have hr := rdF_is f.k a2 a3 b2 b3 d2 d3
  rw [a1, b1, d1, rEnd_nil] at hr
  refine decF_fine (l := num f.e.toNat ++ (num f.q.toNat ++ (num f.d.length ++ f.d))) (k := f.k) (c := 0) (by omega) (by rw [ht, hdp]) (by rw [ht, frB_is, List.append_assoc]) ?_ rfl h
  rw [hr]
  have e1 : ((f.e.toNat : Nat) : Int) = f.e := by omega
  have e2 : ((f.q.toNat : Nat) : Int) = f.q := by omega
  rw [e1, e2]
theorem frT_inj {f g : PFr} (hf : frC f = 0) (hg : frC g = 0) (h : frT f = frT g) : f = g := by
  have a := dec_enc f hf
  rw [h, dec_enc g hg] at a
  exact (Prod.mk.inj a).1.symm

/-! ### what is read is written as it was -/
theorem numB_more (k j n : Nat) (h1 : n < 128 ^ (k + 1)) (h2 : n < 128 ^ (j + 1)) : numB k n = numB j n := by
  induction k generalizing j n with
  | zero => rw [numB_zero]; cases j with
            | zero => rw [numB_zero]
            | succ j => rw [numB_small _ _ (by simpa using h1)]
  | succ k ih =>
    by_cases hn : n < 128
    · rw [numB_small _ _ hn, numB_small _ _ hn]
    · cases j with
      | zero => simp at h2; omega
      | succ j =>
        rw [numB_big _ _ (by omega), numB_big _ _ (by omega)]
        congr 1
        refine ih j (n / 128) ?_ ?_
        · rw [Nat.div_lt_iff_lt_mul (by decide), ← Nat.pow_succ]; exact h1
        · rw [Nat.div_lt_iff_lt_mul (by decide), ← Nat.pow_succ]; exact h2
theorem getA_canon (k : Nat) : ∀ (i acc : Nat) (l : List UInt8), (getA k i acc l).2.2 = 0 → ∃ m, (getA k i acc l).1 = acc + m * 128 ^ i ∧ l = numB (k - 1) m ++ (getA k i acc l).2.1 ∧ m < 128 ^ k ∧ (0 < m ∨ i = 0) ∧ 0 < k := by
  induction k with
  | zero => intro i acc l h; simp [getA] at h
  | succ k ih =>
    intro i acc l h
    cases l with
    | nil => simp [getA] at h
    | cons c l =>
      have hc := c.toNat_lt
      by_cases h1 : 128 ≤ c.toNat
      · rw [getA_more h1] at h ⊢
        obtain ⟨m, e1, e2, e3, e4, e5⟩ := ih _ _ _ h
        have hm : 0 < m := by omega
        refine ⟨c.toNat % 128 + 128 * m, ?_, ?_, ?_, by omega, by omega⟩
        · rw [e1, Nat.pow_succ, Nat.add_mul, Nat.add_assoc]
          congr 2
          rw [Nat.mul_comm 128 m, Nat.mul_assoc, Nat.mul_comm 128]
        · obtain ⟨k', rfl⟩ : ∃ k', k = k' + 1 := ⟨k - 1, by omega⟩
          show c :: l = numB (k' + 1) _ ++ _
          rw [numB_big _ _ (by omega)]
          have q1 : (c.toNat % 128 + 128 * m) % 128 + 128 = c.toNat := by omega
          have q2 : (c.toNat % 128 + 128 * m) / 128 = m := by omega
          rw [q1, q2]
          have q3 : UInt8.ofNat c.toNat = c := by simp
          rw [q3, List.cons_append]
          congr 1
        · rw [Nat.pow_succ]; omega
      · by_cases h2 : c.toNat = 0 ∧ 0 < i
        · rw [getA_zero h2.1 h2.2] at h; simp at h
        · by_cases h3 : 1099511627776 < acc + c.toNat % 128 * 128 ^ i
          · rw [getA_over (by omega) h2 h3] at h; simp at h
          · rw [getA_done (by omega) h2 h3]
            refine ⟨c.toNat, by rw [Nat.mod_eq_of_lt (by omega)], ?_, ?_, by omega, by omega⟩
            · rw [numB_small _ _ (by omega)]
              have q3 : UInt8.ofNat c.toNat = c := by simp
              rw [q3]; rfl
            · rw [Nat.pow_succ]
              have : 1 ≤ 128 ^ k := Nat.pos_of_ne_zero (by simp)
              omega
theorem g_canon {l : List UInt8} (h : gC l = 0) : l = num (gN l) ++ gR l := by
  unfold gC getL at h
  obtain ⟨m, e1, e2, e3, _, _⟩ := getA_canon 6 0 0 l h
  have hn : gN l = m := by unfold gN getL; rw [e1]; omega
  have hr : gR l = (getA 6 0 0 l).2.1 := by unfold gR getL; rfl
  rw [hn, hr]
  unfold num
  rw [numB_more 6 5 m (Nat.lt_of_lt_of_le e3 (by decide)) e3]
  exact e2
theorem t_canon {l : List UInt8} (h : tC l = 0) : l = num (tT l).length ++ tT l ++ tR l := by
  by_cases h0 : gC l = 0
  · by_cases h1 : 20000 < gN l
    · have : tC l = 2 := by simp [tC, h0, h1]
      omega
    · by_cases h2 : (gR l).length < gN l
      · have : tC l = 1 := by unfold tC; rw [if_neg (by simp [h0]), if_neg h1, if_pos h2]
        omega
      · have e1 : tT l = (gR l).take (gN l) := by unfold tT; rw [if_pos h]
        have e2 : tR l = (gR l).drop (gN l) := by unfold tR; rw [if_pos h]
        have hc := g_canon h0
        rw [e1, e2, List.length_take, Nat.min_eq_left (by omega), List.append_assoc, List.take_append_drop]
        exact hc
  · have : tC l = gC l := by simp [tC, h0]
    omega
theorem enc_dec {L : List UInt8} {f : PFr} (h : decF L = (f, 0)) : frC f = 0 ∧ frT f = L := by
  by_cases h4 : L.length < 4
  · rw [decF_short h4] at h; simp at h
  by_cases hs : lowL (csum (L.take (L.length - 4))) = L.drop (L.length - 4)
  · rcases hb : L.take (L.length - 4) with _ | ⟨k, l⟩
    · have : L.length = 4 := by have := congrArg List.length hb; simp at this; omega
      rw [decF_none this hs] at h; simp at h
    · rcases hr : rdF k l with ⟨g, c⟩
      by_cases hc : c = 0
      · by_cases hf : frC g = 0
        · rw [decF_fine h4 hs hb hr hc hf] at h
          obtain rfl : g = f := (Prod.mk.inj h).1
          refine ⟨hf, ?_⟩
          have hr2 := rdF_is k (l := l) rfl rfl rfl rfl rfl rfl
          rw [hr] at hr2
          obtain ⟨e1, e2⟩ := Prod.mk.inj hr2
          subst hc
          have hend : rtC (rnR (rnR l 0) (rnC l 0)) (rnC (rnR l 0) (rnC l 0)) = 0 ∧ rtR (rnR (rnR l 0) (rnC l 0)) (rnC (rnR l 0) (rnC l 0)) = [] := by
            by_cases hz : rtC (rnR (rnR l 0) (rnC l 0)) (rnC (rnR l 0) (rnC l 0)) = 0
            · refine ⟨hz, ?_⟩
              rw [hz] at e2
              by_cases hn : rtR (rnR (rnR l 0) (rnC l 0)) (rnC (rnR l 0) (rnC l 0)) = []
              · exact hn
              · rw [rEnd_some hn] at e2; simp at e2
            · rw [rEnd_err _ hz] at e2; omega
          have c2 : rnC (rnR l 0) (rnC l 0) = 0 := by
            by_cases hz : rnC (rnR l 0) (rnC l 0) = 0
            · exact hz
            · rw [(rt_err _ hz).2.2] at hend; exact absurd hend.1 hz
          have c1 : rnC l 0 = 0 := by
            by_cases hz : rnC l 0 = 0
            · exact hz
            · rw [(rn_err _ hz).2.2] at c2; exact absurd c2 hz
          rw [c1] at c2 e1 hend
          rw [c2] at e1 hend
          obtain ⟨z1, z2, z3⟩ := rn_zero l
          rw [z3] at c1
          obtain ⟨y1, y2, y3⟩ := rn_zero (rnR l 0)
          rw [y3] at c2
          obtain ⟨x1, x2, x3⟩ := rt_zero (rnR (rnR l 0) 0)
          rw [x3, x2] at hend
          have k1 := g_canon c1
          have k2 := g_canon c2
          have k3 := t_canon hend.1
          rw [hend.2, List.append_nil] at k3
          rw [← y2] at k2
          rw [← z2] at k1
          rw [x1, z1, y1] at e1
          have hB : frB g = k :: l := by
            rw [e1, frB_is]
            simp only [Int.toNat_natCast]
            congr 1
            conv => rhs; rw [k1, k2, k3]
            rw [List.append_assoc]
          rw [frT_is, hB, ← hb, hs, List.take_append_drop]
        · rw [decF_bad h4 hs hb hr hc hf] at h
          exact absurd (Prod.mk.inj h).2 hf
      · rw [decF_end h4 hs hb hr hc] at h
        exact absurd (Prod.mk.inj h).2 hc
  · rw [decF_sum h4 hs] at h; simp at h
theorem decF_err {L : List UInt8} (h : (decF L).2 ≠ 0) : (decF L).1 = zfr := by
  by_cases h4 : L.length < 4
  · rw [decF_short h4]
  by_cases hs : lowL (csum (L.take (L.length - 4))) = L.drop (L.length - 4)
  · rcases hb : L.take (L.length - 4) with _ | ⟨k, l⟩
    · have : L.length = 4 := by have := congrArg List.length hb; simp at this; omega
      rw [decF_none this hs]
    · rcases hr : rdF k l with ⟨g, c⟩
      by_cases hc : c = 0
      · by_cases hf : frC g = 0
        · rw [decF_fine h4 hs hb hr hc hf] at h; exact absurd rfl h
        · rw [decF_bad h4 hs hb hr hc hf]
      · rw [decF_end h4 hs hb hr hc]
  · rw [decF_sum h4 hs]
end Go.Proofs.YtkojhnmchbhbbaaDoor
