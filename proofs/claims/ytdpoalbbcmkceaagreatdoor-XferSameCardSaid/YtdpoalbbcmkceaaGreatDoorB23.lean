/- Texts of one proof, one behind the other: FramePlain, FrVal, Frame, FrEnc. -/
import Derived.Test.YtdpoalbbcmkceaaGreatDoorB10
import Derived.Test.YtdpoalbbcmkceaaGreatDoorB20
import Derived.Test.YtdpoalbbcmkceaaGreatDoorB21
/- Plain laws of frames. -/
namespace Go.Proofs.YtdpoalbbcmkceaaGreatDoor
open Go.RowKit
set_option linter.unusedVariables false

structure PFr where
  k : UInt8
  e : Int
  q : Int
  d : List UInt8
deriving DecidableEq
def zfr : PFr := ⟨0, 0, 0, []⟩
def frC (f : PFr) : Nat := if ¬ (97 ≤ f.k.toNat ∧ f.k.toNat ≤ 122) then 4 else if (0 ≤ f.e ∧ f.e ≤ 2147483648) ∧ (0 ≤ f.q ∧ f.q < 65536) ∧ f.d.length ≤ 20000 then 0 else 2
theorem frC_kind {f : PFr} (h : ¬ (97 ≤ f.k.toNat ∧ f.k.toNat ≤ 122)) : frC f = 4 := by unfold frC; rw [if_pos h]
theorem frC_fine {f : PFr} (h : 97 ≤ f.k.toNat ∧ f.k.toNat ≤ 122) (h2 : (0 ≤ f.e ∧ f.e ≤ 2147483648) ∧ (0 ≤ f.q ∧ f.q < 65536) ∧ f.d.length ≤ 20000) : frC f = 0 := by unfold frC; rw [if_neg (by simpa using h), if_pos h2]
theorem frC_bound {f : PFr} (h : 97 ≤ f.k.toNat ∧ f.k.toNat ≤ 122) (h2 : ¬ ((0 ≤ f.e ∧ f.e ≤ 2147483648) ∧ (0 ≤ f.q ∧ f.q < 65536) ∧ f.d.length ≤ 20000)) : frC f = 2 := by unfold frC; rw [if_neg (by simpa using h), if_neg h2]
theorem frC_zero {f : PFr} (h : frC f = 0) : (97 ≤ f.k.toNat ∧ f.k.toNat ≤ 122) ∧ (0 ≤ f.e ∧ f.e ≤ 2147483648) ∧ (0 ≤ f.q ∧ f.q < 65536) ∧ f.d.length ≤ 20000 := by
  by_cases h1 : 97 ≤ f.k.toNat ∧ f.k.toNat ≤ 122
  · by_cases h2 : (0 ≤ f.e ∧ f.e ≤ 2147483648) ∧ (0 ≤ f.q ∧ f.q < 65536) ∧ f.d.length ≤ 20000
    · exact ⟨h1, h2⟩
    · rw [frC_bound h1 h2] at h; simp at h
  · rw [frC_kind h1] at h; simp at h
/-- four bytes of a sum, low ones first -/
def lowL (v : Nat) : List UInt8 := [UInt8.ofNat (v % 256), UInt8.ofNat (v / 256 % 256), UInt8.ofNat (v / 65536 % 256), UInt8.ofNat (v / 16777216 % 256)]
theorem lowL_len (v : Nat) : (lowL v).length = 4 := rfl
theorem ofNat_inj {a b : Nat} (ha : a < 256) (hb : b < 256) (h : UInt8.ofNat a = UInt8.ofNat b) : a = b := by
  have := congrArg UInt8.toNat h
  rw [byte_ofNat a ha, byte_ofNat b hb] at this
  exact this
theorem lowL_inj {a b : Nat} (ha : a < 4294967296) (hb : b < 4294967296) (h : lowL a = lowL b) : a = b := by
  unfold lowL at h
  simp only [List.cons.injEq, and_true] at h
  obtain ⟨h0, h1, h2, h3⟩ := h
  have h0 := ofNat_inj (by omega) (by omega) h0
  have h1 := ofNat_inj (by omega) (by omega) h1
  have h2 := ofNat_inj (by omega) (by omega) h2
  have h3 := ofNat_inj (by omega) (by omega) h3
  omega
/-- a frame's bytes ahead of its sum; all of them -/
def frB (f : PFr) : List UInt8 := f.k :: (num f.e.toNat ++ num f.q.toNat ++ (num f.d.length ++ f.d))
def frT (f : PFr) : List UInt8 := frB f ++ lowL (csum (frB f))
theorem frB_is (f : PFr) : frB f = f.k :: (num f.e.toNat ++ num f.q.toNat ++ (num f.d.length ++ f.d)) := rfl
theorem frT_is (f : PFr) : frT f = frB f ++ lowL (csum (frB f)) := rfl
/-- what a reader of a frame reads -/
def rdF (k : UInt8) (l : List UInt8) : PFr × Nat :=
  let l1 := rnR l 0; let c1 := rnC l 0; let l2 := rnR l1 c1; let c2 := rnC l1 c1
  (⟨k, rnN l 0, rnN l1 c1, rtT l2 c2⟩, rEnd (rtR l2 c2) (rtC l2 c2))
theorem rdF_is (k : UInt8) {l l1 l2 l3 : List UInt8} {c1 c2 c3 : Nat} (h1 : rnR l 0 = l1) (h2 : rnC l 0 = c1) (h3 : rnR l1 c1 = l2) (h4 : rnC l1 c1 = c2) (h5 : rtR l2 c2 = l3) (h6 : rtC l2 c2 = c3) : rdF k l = (⟨k, rnN l 0, rnN l1 c1, rtT l2 c2⟩, rEnd l3 c3) := by
  subst h1 h2 h3 h4 h5 h6; rfl
def decF (L : List UInt8) : PFr × Nat :=
  if L.length < 4 then (zfr, 1)
  else if lowL (csum (L.take (L.length - 4))) ≠ L.drop (L.length - 4) then (zfr, 10)
  else match L.take (L.length - 4) with
    | [] => (zfr, 1)
    | k :: l => if (rdF k l).2 ≠ 0 then (zfr, (rdF k l).2) else if frC (rdF k l).1 ≠ 0 then (zfr, frC (rdF k l).1) else ((rdF k l).1, 0)
theorem decF_short {L : List UInt8} (h : L.length < 4) : decF L = (zfr, 1) := by unfold decF; rw [if_pos h]
theorem decF_sum {L : List UInt8} (h : ¬ L.length < 4) (h2 : lowL (csum (L.take (L.length - 4))) ≠ L.drop (L.length - 4)) : decF L = (zfr, 10) := by unfold decF; rw [if_neg h, if_pos h2]
theorem decF_none {L : List UInt8} (h : L.length = 4) (h2 : lowL (csum (L.take (L.length - 4))) = L.drop (L.length - 4)) : decF L = (zfr, 1) := by
  unfold decF
  rw [if_neg (by omega), if_neg (by simpa using h2)]
  have e : L.take (L.length - 4) = [] := by rw [h]; rfl
  rw [e]
theorem decF_end {L l : List UInt8} {k : UInt8} {f : PFr} {c : Nat} (h : ¬ L.length < 4) (h2 : lowL (csum (L.take (L.length - 4))) = L.drop (L.length - 4)) (h3 : L.take (L.length - 4) = k :: l) (hr : rdF k l = (f, c)) (hc : c ≠ 0) : decF L = (zfr, c) := by
  unfold decF
  rw [if_neg h, if_neg (by simpa using h2), h3]
  simp only [hr]
  rw [if_pos hc]
theorem decF_bad {L l : List UInt8} {k : UInt8} {f : PFr} {c : Nat} (h : ¬ L.length < 4) (h2 : lowL (csum (L.take (L.length - 4))) = L.drop (L.length - 4)) (h3 : L.take (L.length - 4) = k :: l) (hr : rdF k l = (f, c)) (hc : c = 0) (hf : frC f ≠ 0) : decF L = (zfr, frC f) := by
  unfold decF
  rw [if_neg h, if_neg (by simpa using h2), h3]
  simp only [hr]
  rw [if_neg (by simp [hc]), if_pos hf]
theorem decF_fine {L l : List UInt8} {k : UInt8} {f : PFr} {c : Nat} (h : ¬ L.length < 4) (h2 : lowL (csum (L.take (L.length - 4))) = L.drop (L.length - 4)) (h3 : L.take (L.length - 4) = k :: l) (hr : rdF k l = (f, c)) (hc : c = 0) (hf : frC f = 0) : decF L = (f, 0) := by
  unfold decF
  rw [if_neg h, if_neg (by simpa using h2), h3]
  simp only [hr]
  rw [if_neg (by simp [hc]), if_neg (by simp [hf])]

/-! ### read as it was written -/
theorem rn_num' (n : Nat) (more : List UInt8) (h : n ≤ 1099511627776) : rnN (num n ++ more) 0 = n ∧ rnR (num n ++ more) 0 = more ∧ rnC (num n ++ more) 0 = 0 := by
  obtain ⟨a, b, c⟩ := rn_zero (num n ++ more)
  rw [a, b, c, gN_num n more h, gR_num n more h, gC_num n more h]
  exact ⟨rfl, rfl, rfl⟩
theorem dec_enc (f : PFr) (h : frC f = 0) : decF (frT f) = (f, 0) := by
  obtain ⟨hk, ⟨he1, he2⟩, ⟨hq1, hq2⟩, hd⟩ := frC_zero h
  have hl : (frT f).length = (frB f).length + 4 := by rw [frT_is, List.length_append, lowL_len]
  have ht : (frT f).take ((frT f).length - 4) = frB f := by rw [hl, frT_is]; simp
  have hdp : (frT f).drop ((frT f).length - 4) = lowL (csum (frB f)) := by rw [hl, frT_is]; simp
  obtain ⟨a1, a2, a3⟩ := rn_num' f.e.toNat (num f.q.toNat ++ (num f.d.length ++ f.d)) (by omega)
  obtain ⟨b1, b2, b3⟩ := rn_num' f.q.toNat (num f.d.length ++ f.d) (by omega)
  obtain ⟨c1, c2, c3⟩ := t_text f.d [] hd
  rw [List.append_nil] at c1 c2 c3
  have d1 := (rt_zero (num f.d.length ++ f.d)).1.trans c2
  have d2 := (rt_zero (num f.d.length ++ f.d)).2.1.trans c3
  have d3 := (rt_zero (num f.d.length ++ f.d)).2.2.trans c1
  have hr := rdF_is f.k a2 a3 b2 b3 d2 d3
  rw [a1, b1, d1, rEnd_nil] at hr
  refine decF_fine (l := num f.e.toNat ++ (num f.q.toNat ++ (num f.d.length ++ f.d))) (k := f.k) (c := 0) (by omega) (by rw [ht, hdp]) (by rw [ht, frB_is, List.append_assoc]) ?_ rfl h
  rw [hr]
  have e1 : ((f.e.toNat : Nat) : Int) = f.e := by omega
  have e2 : ((f.q.toNat : Nat) : Int) = f.q := by omega
  rw [e1, e2]
theorem frT_inj {f g : PFr} (hf : frC f = 0) (hg : frC g = 0) (h : frT f = frT g) : f = g := by
  have a := dec_enc f hf
  rw [h, dec_enc g hg] at a
  exact (Prod.mk.inj a).1.symm

/-! ### what is read is written as it was -/
theorem numB_more (k j n : Nat) (h1 : n < 128 ^ (k + 1)) (h2 : n < 128 ^ (j + 1)) : numB k n = numB j n := by
  induction k generalizing j n with
  | zero => rw [numB_zero]; cases j with
            | zero => rw [numB_zero]
            | succ j => rw [numB_small _ _ (by simpa using h1)]
  | succ k ih =>
    by_cases hn : n < 128
    · rw [numB_small _ _ hn, numB_small _ _ hn]
    · cases j with
      | zero => simp at h2; omega
      | succ j =>
        rw [numB_big _ _ (by omega), numB_big _ _ (by omega)]
        congr 1
        refine ih j (n / 128) ?_ ?_
        · rw [Nat.div_lt_iff_lt_mul (by decide), ← Nat.pow_succ]; exact h1
        · rw [Nat.div_lt_iff_lt_mul (by decide), ← Nat.pow_succ]; exact h2
theorem getA_canon (k : Nat) : ∀ (i acc : Nat) (l : List UInt8), (getA k i acc l).2.2 = 0 → ∃ m, (getA k i acc l).1 = acc + m * 128 ^ i ∧ l = numB (k - 1) m ++ (getA k i acc l).2.1 ∧ m < 128 ^ k ∧ (0 < m ∨ i = 0) ∧ 0 < k := by
  induction k with
  | zero => intro i acc l h; simp [getA] at h
  | succ k ih =>
    intro i acc l h
    cases l with
    | nil => simp [getA] at h
    | cons c l =>
      have hc := c.toNat_lt
      by_cases h1 : 128 ≤ c.toNat
      · rw [getA_more h1] at h ⊢
        obtain ⟨m, e1, e2, e3, e4, e5⟩ := ih _ _ _ h
        have hm : 0 < m := by omega
        refine ⟨c.toNat % 128 + 128 * m, ?_, ?_, ?_, by omega, by omega⟩
        · rw [e1, Nat.pow_succ, Nat.add_mul, Nat.add_assoc]
          congr 2
          rw [Nat.mul_comm 128 m, Nat.mul_assoc, Nat.mul_comm 128]
        · obtain ⟨k', rfl⟩ : ∃ k', k = k' + 1 := ⟨k - 1, by omega⟩
          show c :: l = numB (k' + 1) _ ++ _
          rw [numB_big _ _ (by omega)]
          have q1 : (c.toNat % 128 + 128 * m) % 128 + 128 = c.toNat := by omega
          have q2 : (c.toNat % 128 + 128 * m) / 128 = m := by omega
          rw [q1, q2]
          have q3 : UInt8.ofNat c.toNat = c := by simp
          rw [q3, List.cons_append]
          congr 1
        · rw [Nat.pow_succ]; omega
      · by_cases h2 : c.toNat = 0 ∧ 0 < i
        · rw [getA_zero h2.1 h2.2] at h; simp at h
        · by_cases h3 : 1099511627776 < acc + c.toNat % 128 * 128 ^ i
          · rw [getA_over (by omega) h2 h3] at h; simp at h
          · rw [getA_done (by omega) h2 h3]
            refine ⟨c.toNat, by rw [Nat.mod_eq_of_lt (by omega)], ?_, ?_, by omega, by omega⟩
            · rw [numB_small _ _ (by omega)]
              have q3 : UInt8.ofNat c.toNat = c := by simp
              rw [q3]; rfl
            · rw [Nat.pow_succ]
              have : 1 ≤ 128 ^ k := Nat.pos_of_ne_zero (by simp)
              omega
theorem g_canon {l : List UInt8} (h : gC l = 0) : l = num (gN l) ++ gR l := by
  unfold gC getL at h
  obtain ⟨m, e1, e2, e3, _, _⟩ := getA_canon 6 0 0 l h
  have hn : gN l = m := by unfold gN getL; rw [e1]; omega
  have hr : gR l = (getA 6 0 0 l).2.1 := by unfold gR getL; rfl
  rw [hn, hr]
  unfold num
  rw [numB_more 6 5 m (Nat.lt_of_lt_of_le e3 (by decide)) e3]
  exact e2
theorem t_canon {l : List UInt8} (h : tC l = 0) : l = num (tT l).length ++ tT l ++ tR l := by
  by_cases h0 : gC l = 0
  · by_cases h1 : 20000 < gN l
    · have : tC l = 2 := by simp [tC, h0, h1]
      omega
    · by_cases h2 : (gR l).length < gN l
      · have : tC l = 1 := by unfold tC; rw [if_neg (by simp [h0]), if_neg h1, if_pos h2]
        omega
      · have e1 : tT l = (gR l).take (gN l) := by unfold tT; rw [if_pos h]
        have e2 : tR l = (gR l).drop (gN l) := by unfold tR; rw [if_pos h]
        have hc := g_canon h0
        rw [e1, e2, List.length_take, Nat.min_eq_left (by omega), List.append_assoc, List.take_append_drop]
        exact hc
  · have : tC l = gC l := by simp [tC, h0]
    omega
theorem enc_dec {L : List UInt8} {f : PFr} (h : decF L = (f, 0)) : frC f = 0 ∧ frT f = L := by
  by_cases h4 : L.length < 4
  · rw [decF_short h4] at h; simp at h
  by_cases hs : lowL (csum (L.take (L.length - 4))) = L.drop (L.length - 4)
  · rcases hb : L.take (L.length - 4) with _ | ⟨k, l⟩
    · have : L.length = 4 := by have := congrArg List.length hb; simp at this; omega
      rw [decF_none this hs] at h; simp at h
    · rcases hr : rdF k l with ⟨g, c⟩
      by_cases hc : c = 0
      · by_cases hf : frC g = 0
        · rw [decF_fine h4 hs hb hr hc hf] at h
          obtain rfl : g = f := (Prod.mk.inj h).1
          refine ⟨hf, ?_⟩
          have hr2 := rdF_is k (l := l) rfl rfl rfl rfl rfl rfl
          rw [hr] at hr2
          obtain ⟨e1, e2⟩ := Prod.mk.inj hr2
          subst hc
          have hend : rtC (rnR (rnR l 0) (rnC l 0)) (rnC (rnR l 0) (rnC l 0)) = 0 ∧ rtR (rnR (rnR l 0) (rnC l 0)) (rnC (rnR l 0) (rnC l 0)) = [] := by
            by_cases hz : rtC (rnR (rnR l 0) (rnC l 0)) (rnC (rnR l 0) (rnC l 0)) = 0
            · refine ⟨hz, ?_⟩
              rw [hz] at e2
              by_cases hn : rtR (rnR (rnR l 0) (rnC l 0)) (rnC (rnR l 0) (rnC l 0)) = []
              · exact hn
              · rw [rEnd_some hn] at e2; simp at e2
            · rw [rEnd_err _ hz] at e2; omega
          have c2 : rnC (rnR l 0) (rnC l 0) = 0 := by
            by_cases hz : rnC (rnR l 0) (rnC l 0) = 0
            · exact hz
            · rw [(rt_err _ hz).2.2] at hend; exact absurd hend.1 hz
          have c1 : rnC l 0 = 0 := by
            by_cases hz : rnC l 0 = 0
            · exact hz
            · rw [(rn_err _ hz).2.2] at c2; exact absurd c2 hz
          rw [c1] at c2 e1 hend
          rw [c2] at e1 hend
          obtain ⟨z1, z2, z3⟩ := rn_zero l
          rw [z3] at c1
          obtain ⟨y1, y2, y3⟩ := rn_zero (rnR l 0)
          rw [y3] at c2
          obtain ⟨x1, x2, x3⟩ := rt_zero (rnR (rnR l 0) 0)
          rw [x3, x2] at hend
          have k1 := g_canon c1
          have k2 := g_canon c2
          have k3 := t_canon hend.1
          rw [hend.2, List.append_nil] at k3
          rw [← y2] at k2
          rw [← z2] at k1
          rw [x1, z1, y1] at e1
          have hB : frB g = k :: l := by
            rw [e1, frB_is]
            simp only [Int.toNat_natCast]
            congr 1
            conv => rhs; rw [k1, k2, k3]
            rw [List.append_assoc]
          rw [frT_is, hB, ← hb, hs, List.take_append_drop]
        · rw [decF_bad h4 hs hb hr hc hf] at h
          exact absurd (Prod.mk.inj h).2 hf
      · rw [decF_end h4 hs hb hr hc] at h
        exact absurd (Prod.mk.inj h).2 hc
  · rw [decF_sum h4 hs] at h; simp at h
theorem decF_err {L : List UInt8} (h : (decF L).2 ≠ 0) : (decF L).1 = zfr := by
  by_cases h4 : L.length < 4
  · rw [decF_short h4]
  by_cases hs : lowL (csum (L.take (L.length - 4))) = L.drop (L.length - 4)
  · rcases hb : L.take (L.length - 4) with _ | ⟨k, l⟩
    · have : L.length = 4 := by have := congrArg List.length hb; simp at this; omega
      rw [decF_none this hs]
    · rcases hr : rdF k l with ⟨g, c⟩
      by_cases hc : c = 0
      · by_cases hf : frC g = 0
        · rw [decF_fine h4 hs hb hr hc hf] at h; exact absurd rfl h
        · rw [decF_bad h4 hs hb hr hc hf]
      · rw [decF_end h4 hs hb hr hc]
  · rw [decF_sum h4 hs]
end Go.Proofs.YtdpoalbbcmkceaaGreatDoor
/- A frame as a value. -/
namespace Go.Proofs.YtdpoalbbcmkceaaGreatDoor
open Go.RowKit
set_option linter.unusedVariables false

def PFr.val (f : PFr) : Value := .agg #[.int .u8 f.k.toNat, .int .i64 f.e, .int .i64 f.q, .string (bs f.d)]
theorem PFr.val_is (f : PFr) : f.val = .agg #[.int .u8 f.k.toNat, .int .i64 f.e, .int .i64 f.q, .string (bs f.d)] := rfl
def PFr.ok (f : PFr) : Prop := (Lit.int .i64 f.e).wf = true ∧ (Lit.int .i64 f.q).wf = true ∧ f.d.length ≤ maxLen
end Go.Proofs.YtdpoalbbcmkceaaGreatDoor
/- Contracts of package frame: Check, low, Encode. -/
namespace Go.Proofs.YtdpoalbbcmkceaaGreatDoor
open Go.RowKit
set_option linter.unusedVariables false

set_option maxRecDepth 100000 in
set_option maxHeartbeats 1600000 in
theorem fcheck_any (E : Nat → Addr) (f : PFr) (w : World) (h2 : Has E w 2) (h4 : Has E w 4) : Calls Tryz.prog 61 #[f.val] w fun e w' => e = .returned (ev E (frC f)) ∧ Below w.heap.size w w' := by
  have z2 : 1 < w.heap.size := World.block_lt_of_cell? w _ h2
  have z4 : 3 < w.heap.size := World.block_lt_of_cell? w _ h4
  have c2 : w.cell? ⟨1, 0, none⟩ = some (errv (E 2)) := h2
  have c4 : w.cell? ⟨3, 0, none⟩ = some (errv (E 4)) := h4
  have HA := Lib.hid (fun o => below_alloc' w o)
  have V0 := Lib.hid (ev_zero E)
  have V2 := Lib.hid (ev_is E (c := 2) (by decide))
  have V4 := Lib.hid (ev_is E (c := 4) (by decide))
  have K := Lib.hid (frC_kind (f := f))
  have F := Lib.hid (frC_fine (f := f))
  have B := Lib.hid (frC_bound (f := f))
  rw [PFr.val_is]
  obtain ⟨k, e, q, d⟩ := f
  simp only [] at K F B ⊢
  have hk := k.toNat_lt
  clear h2 h4
  rcases (show ((k.toNat : Int) < 97 ∨ ¬ (k.toNat : Int) < 97 ∧ (122 : Int) < k.toNat) ∨ (¬ (k.toNat : Int) < 97 ∧ ¬ (122 : Int) < k.toNat) by omega) with (h | ⟨h, h'⟩) | ⟨h, h'⟩
  · have HC := Lib.hid (K.out (by omega))
    clear K F B
    go_enter Tryz.func61, Tryz.ntmps61
    go_wp2_with fail
    go_ret
    exact ⟨by rw [HC.out, V4.out]; rfl, HA.out _⟩
  · have HC := Lib.hid (K.out (by omega))
    clear K F B
    go_enter Tryz.func61, Tryz.ntmps61
    go_wp2_with fail
    go_ret
    exact ⟨by rw [HC.out, V4.out]; rfl, HA.out _⟩
  · by_cases hf : (0 ≤ e ∧ e ≤ 2147483648) ∧ (0 ≤ q ∧ q < 65536) ∧ d.length ≤ 20000
    · have HC := Lib.hid (F.out (by omega) hf)
      obtain ⟨⟨f1, f2⟩, ⟨f3, f4⟩, f5⟩ := hf
      have f6 : ¬ (20000 : Int) < d.length := by omega
      clear K F B
      go_enter Tryz.func61, Tryz.ntmps61
      go_wp2_with fail
      go_ret
      exact ⟨by rw [HC.out, V0.out]; rfl, HA.out _⟩
    · have HC := Lib.hid (B.out (by omega) hf)
      clear K F B
      rcases (show e < 0 ∨ ¬ e < 0 ∧ 2147483648 < e ∨ (¬ e < 0 ∧ ¬ 2147483648 < e) ∧ q < 0 ∨ (¬ e < 0 ∧ ¬ 2147483648 < e) ∧ ¬ q < 0 ∧ 65536 ≤ q ∨ (¬ e < 0 ∧ ¬ 2147483648 < e) ∧ (¬ q < 0 ∧ ¬ 65536 ≤ q) ∧ (20000 : Int) < d.length by omega) with g | ⟨g, g1⟩ | ⟨⟨g, g1⟩, g2⟩ | ⟨⟨g, g1⟩, g2, g3⟩ | ⟨⟨g, g1⟩, ⟨g2, g3⟩, g4⟩
      all_goals
        clear hf
        go_enter Tryz.func61, Tryz.ntmps61
        go_wp2_with fail
        go_ret
        exact ⟨by rw [HC.out, V2.out]; rfl, HA.out _⟩

theorem conv_four {P : Program} (w : World) (S D E : TypeId) (hs : P.underlying S = some (.slice E)) (he : P.underlying E = some (.int .u8)) (hd : P.underlying D = some .string)
    (b cap : Nat) (c0 c1 c2 c3 : UInt8) (h0 : w.cell? ⟨b, 0, none⟩ = some (.int .u8 c0.toNat)) (h1 : w.cell? ⟨b, 1, none⟩ = some (.int .u8 c1.toNat)) (h2 : w.cell? ⟨b, 2, none⟩ = some (.int .u8 c2.toNat)) (h3 : w.cell? ⟨b, 3, none⟩ = some (.int .u8 c3.toNat)) :
    (convert S D (.slice (some ⟨b, 0, none⟩) 4 cap)).run P w = .ok (.string ⟨#[c0, c1, c2, c3]⟩) w :=
  run_convert_bytes_back w S D E ⟨b, 0, none⟩ cap [c0, c1, c2, c3] hs he hd (fun j hj => by
    match j, hj with
    | 0, _ => simpa [Addr.add] using h0
    | 1, _ => simpa [Addr.add] using h1
    | 2, _ => simpa [Addr.add] using h2
    | 3, _ => simpa [Addr.add] using h3)
set_option maxRecDepth 100000 in
set_option maxHeartbeats 1600000 in
theorem low_any (v : Nat) (w : World) (hv : v < 4294967296) : Calls Tryz.prog 57 #[.int .u32 v] w fun e w' => e = .returned (.string (bs (lowL v))) ∧ Below w.heap.size w w' := by
  have HLW := Lib.hid (show bs (lowL v) = ⟨#[UInt8.ofNat (v % 256), UInt8.ofNat (v / 256 % 256), UInt8.ofNat (v / 65536 % 256), UInt8.ofNat (v / 16777216 % 256)]⟩ by unfold bs lowL; rfl)
  have m0 := byte_ofNat (v % 256) (by omega)
  have m1 := byte_ofNat (v / 256 % 256) (by omega)
  have m2 := byte_ofNat (v / 65536 % 256) (by omega)
  have m3 := byte_ofNat (v / 16777216 % 256) (by omega)
  have CV := fun (w' : World) (b : Nat) h0 h1 h2 h3 => conv_four (P := Tryz.prog) w' 85 9 5 Tryz.underlying85 Tryz.underlying5 Tryz.underlying9 b 4 (UInt8.ofNat (v % 256)) (UInt8.ofNat (v / 256 % 256)) (UInt8.ofNat (v / 65536 % 256)) (UInt8.ofNat (v / 16777216 % 256)) h0 h1 h2 h3
  rw [m0, m1, m2, m3] at CV
  have HCV := Lib.hid CV
  clear CV m0 m1 m2 m3
  have hcv := HCV.out (w.alloc (.cells #[.int .u8 ((v : Int) % 256), .int .u8 ((v : Int) / 256 % 256), .int .u8 ((v : Int) / 65536 % 256), .int .u8 ((v : Int) / 16777216)] 5)) w.heap.size (by simp) (by simp) (by simp) (by simp; omega)
  go_enter Tryz.func57, Tryz.ntmps57
  go_wp2_with fail
  go_ret
  exact ⟨by rw [HLW.out]; rfl, below_alloc' _ _⟩
end Go.Proofs.YtdpoalbbcmkceaaGreatDoor
/- Contract of frame.Encode. -/
namespace Go.Proofs.YtdpoalbbcmkceaaGreatDoor
open Go.RowKit
set_option linter.unusedVariables false

theorem bsadd (a b : List UInt8) : bs a ++ bs b = bs (a ++ b) := eq_bs (by simp)
def encL (f : PFr) : List UInt8 := if frC f = 0 then frT f else []
theorem encL_yes {f : PFr} (h : frC f = 0) : encL f = frT f := by simp [encL, h]
theorem encL_no {f : PFr} (h : frC f ≠ 0) : encL f = [] := by simp [encL, h]
attribute [irreducible] encL
attribute [local irreducible] frB frT frC lowL
theorem frB_eq (f : PFr) : frB f = [f.k] ++ (num f.e.toNat ++ num f.q.toNat ++ (num f.d.length ++ f.d)) := by rw [frB_is]; rfl

set_option maxRecDepth 100000 in
set_option maxHeartbeats 3200000 in
theorem fenc_any (E : Nat → Addr) (f : PFr) (w : World) (h2 : Has E w 2) (h4 : Has E w 4) : Calls Tryz.prog 56 #[f.val] w fun e w' => e = .returned (.tuple #[.string (bs (encL f)), ev E (frC f)]) ∧ Below w.heap.size w w' := by
  have CH := Lib.hid (fun (w' : World) (b : Below w.heap.size w w') => fcheck_any E f w' (h2.below b) (h4.below b))
  have HB := Lib.hid h2
  have HEZ := Lib.hid (ev_zero E)
  have HEV := Lib.hid (ev_pos E (c := frC f))
  have YES := Lib.hid (encL_yes (f := f))
  have NO := Lib.hid (encL_no (f := f))
  have ZERO := Lib.hid (frC_zero (f := f))
  have HBE := Lib.hid (frB_eq f)
  have HTE := Lib.hid (frT_is f)
  clear h2 h4
  rw [PFr.val_is] at CH ⊢
  by_cases hc : frC f = 0
  · obtain ⟨hk, ⟨he1, he2⟩, ⟨hq1, hq2⟩, hd⟩ := ZERO.out hc
    rw [YES.out hc, hc, HEZ.out]
    rw [hc, HEZ.out] at CH
    obtain ⟨k, e, q, d⟩ := f
    simp only [] at CH HBE HTE hk he1 he2 hq1 hq2 hd ⊢
    have HF2 := Lib.hid HTE.out
    generalize frB ⟨k, e, q, d⟩ = B at *
    generalize frT ⟨k, e, q, d⟩ = T at *
    have hk256 := k.toNat_lt
    have n1 := num_len e.toNat
    have n2 := num_len q.toNat
    have n3 := num_len d.length
    obtain ⟨X, hX⟩ : ∃ X, X = num e.toNat ++ num q.toNat ++ (num d.length ++ d) := ⟨_, rfl⟩
    have HXP : Hid (0 < X.length) := by show _ < _; rw [hX]; have := num_pos e.toNat; simp only [List.length_append]; omega
    have hXl : X.length ≤ 20021 := by rw [hX]; simp only [List.length_append]; omega
    have HX := Lib.hid hX
    rw [← hX] at HBE
    have hBl : B.length ≤ 20022 := by rw [HBE.out]; simp; omega
    have hkB : bs [k] ++ bs X = bs B := by rw [HBE.out]; exact bsadd _ _
    have SU := Lib.hid (fun w' => sum_any (bs B) w' (by rw [bs_size]; omega))
    rw [bs_list] at SU
    have LW := Lib.hid (fun w' => low_any (csum B) w' (csum_lt B))
    have hTB : bs B ++ bs (lowL (csum B)) = bs T := by rw [HTE.out]; exact bsadd _ _
    have hll := lowL_len (csum B)
    have hcat : ¬ 9223372036854775807 < B.length + (lowL (csum B)).length := by omega
    have hcat2 : ¬ 9223372036854775807 < [k].length + X.length := by simp; omega
    have CV := Lib.hid (fun (w' : World) (b : Nat) h => conv_one (P := Tryz.prog) w' 85 9 5 Tryz.underlying85 Tryz.underlying5 Tryz.underlying9 b 1 k h)
    have HK1 := Lib.hid (show (⟨#[k]⟩ : ByteArray) = bs [k] by unfold bs; rfl)
    simp only [HK1.out] at CV
    generalize lowL (csum B) = LO at *
    clear YES NO ZERO HEV hc HF2 hX
    have b0 := below_alloc' w (.cells #[.int .u8 k.toNat, .int .i64 e, .int .i64 q, .string (bs d)] 55)
    have G0 : (w.alloc (.cells #[.int .u8 k.toNat, .int .i64 e, .int .i64 q, .string (bs d)] 55)).heap[w.heap.size]? = some (.cells #[.int .u8 k.toNat, .int .i64 e, .int .i64 q, .string (bs d)] 55 (0, 0)) := heap_alloc_new _ _
    go_enter Tryz.func56, Tryz.ntmps56
    go_wp2_with fail
    refine (CH.out _ b0).mono ?_
    rintro e' w1 ⟨rfl, b1⟩
    have G1 := (b1.block w.heap.size (lt_of_block G0)).trans G0
    have b01 := below_trans' b0 b1
    have hgb : w.heap.size < w1.heap.size := lt_of_block G1
    have HW0 := Lib.hid (Nat.le_refl w.heap.size)
    have f1' : w1.cell? ⟨w.heap.size, 1, none⟩ = some (.int .i64 e) := by simp [World.cell?, G1]
    clear b0 b1 G0
    go_wp2_with fail
    clear f1'
    have W2 := WAt.new E w1
    have b02 := b01.alloc b01.size (.cells #[.slice none 0 0, .nilIface] 128)
    have G2 := ((below_alloc' w1 (.cells #[.slice none 0 0, .nilIface] 128)).block w.heap.size hgb).trans G1
    have hb : w.heap.size ≤ w1.heap.size := b01.size
    generalize w1.alloc (.cells #[.slice none 0 0, .nilIface] 128) = w2 at *
    have f1 : w2.cell? ⟨w.heap.size, 1, none⟩ = some (.int .i64 e) := by simp [World.cell?, G2]
    generalize w1.heap.size = b at *
    clear b01 G1
    refine (wnum_ok E b _ _ _ (by simp) W2 (HB.out.below b02) (by omega) (by omega)).mono ?_
    rintro e' w3 ⟨rfl, W3, K3⟩
    have b03 := K3.old b02 hb W2.lt
    have G3 := K3.obj G2 (by omega) (by decide)
    rw [List.nil_append] at W3
    clear b02 K3 W2 G2 f1
    have f2 : w3.cell? ⟨w.heap.size, 2, none⟩ = some (.int .i64 q) := by simp [World.cell?, G3]
    go_wp2_with fail
    refine (wnum_ok E b _ _ _ (by omega) W3 (HB.out.below b03) (by omega) (by omega)).mono ?_
    rintro e' w4 ⟨rfl, W4, K4⟩
    have b04 := K4.old b03 hb W3.lt
    have G4 := K4.obj G3 (by omega) (by decide)
    clear b03 K4 W3 G3 f2
    have f3 : w4.cell? ⟨w.heap.size, 3, none⟩ = some (.string (bs d)) := by simp [World.cell?, G4]
    go_wp2_with fail
    refine (wtext_ok E b _ _ _ (by simp only [List.length_append]; omega) W4 (HB.out.below b04) (by rw [bs_size]; omega)).mono ?_
    rintro e' w5 ⟨rfl, W5, K5⟩
    have b05 := K5.old b04 hb W4.lt
    have G5 := K5.obj G4 (by omega) (by decide)
    rw [bs_size, bs_list, ← HX.out] at W5
    clear b04 K5 W4 G4 f3
    go_wp2_with fail
    have DN := wdone_any E b X 0 w5 (fun _ => HXP.out) W5
    rw [doneL_zero, HEZ.out] at DN
    refine DN.mono ?_
    rintro e' w6 ⟨rfl, b6⟩
    have b6 := b6.below w5.heap.size
    have b06 := below_trans' b05 b6
    have G6 := (b6.block w.heap.size (lt_of_block G5)).trans G5
    have f0 : w6.cell? ⟨w.heap.size, 0, none⟩ = some (.int .u8 k.toNat) := by simp [World.cell?, G6]
    have hcv := CV.out (w6.alloc (.cells #[.int .u8 k.toNat] 5)) w6.heap.size (by simp)
    clear b05 b6 G5 DN W5 G6
    go_wp2_with (go_at_call 27; refine (SU.out _).mono ?_; rintro e' w7 ⟨rfl, rfl⟩)
    refine (LW.out _).mono ?_
    rintro e' w8 ⟨rfl, b8⟩
    go_wp2_with fail
    go_ret2
    exact ⟨ret2 (by first | rfl | (rw [← hTB]; done) | (rw [hTB]; done)) (by first | rfl | trivial), below_trans' (b06.alloc b06.size _) b8⟩
  · rw [NO.out hc, HEV.out hc]
    rw [HEV.out hc] at CH
    have b0 := below_alloc' w (.cells #[.int .u8 f.k.toNat, .int .i64 f.e, .int .i64 f.q, .string (bs f.d)] 55)
    clear YES NO ZERO HEV HBE HTE hc
    go_enter Tryz.func56, Tryz.ntmps56
    go_wp2_with fail
    refine (CH.out _ b0).mono ?_
    rintro e' w1 ⟨rfl, b1⟩
    go_wp2_with fail
    go_ret2
    exact ⟨ret2 (by rw [bs_nil]; rfl) rfl, below_trans' b0 b1⟩
end Go.Proofs.YtdpoalbbcmkceaaGreatDoor
