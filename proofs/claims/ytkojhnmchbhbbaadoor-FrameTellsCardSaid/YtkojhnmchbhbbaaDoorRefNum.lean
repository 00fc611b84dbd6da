/- The document's numbers and texts: Byte, NumText, Counted, NumOf, TextOf. -/
import Derived.Test.YtkojhnmchbhbbaaDoorNum
import Derived.Handy
namespace Go.Proofs.YtkojhnmchbhbbaaDoor
open Go.RowKit
set_option linter.unusedVariables false

theorem rbyte_any (c : UInt8) (w : World) : Calls Tryd.prog 53 #[.int .i64 c.toNat] w fun e w' => e = .returned (.string (bs [c])) ∧ Below w.heap.size w w' := by
  have hc := c.toNat_lt
  have CV := fun (w' : World) => conv_one (P := Tryd.prog) w' 78 9 5 Tryd.underlying78 Tryd.underlying5 Tryd.underlying9 w.heap.size 1 c
  have HCV := Lib.hid (CV (w.alloc (.cells #[.int .u8 c.toNat] 5)) (by simp))
  have hcv := HCV.out
  have HB := Lib.hid (show bs [c] = ⟨#[c]⟩ by unfold bs; rfl)
  have x1 : (c.toNat : Int) < 256 := by omega
  clear CV HCV
  go_enter Tryd.func53, Tryd.ntmps53
  go_wp2_with fail
  go_ret
  exact ⟨by rw [HB.out]; rfl, (Below.refl _ w).alloc (Nat.le_refl _) _⟩

theorem rnt_step {k m : Nat} (hm : 128 ≤ m) (hk : m < 128 ^ (k + 1)) : ∃ j, k = j + 1 ∧ numB k m = UInt8.ofNat (m % 128 + 128) :: numB j (m / 128) ∧ m / 128 < 128 ^ (j + 1) := by
  cases k with
  | zero => simp at hk; omega
  | succ j =>
    refine ⟨j, rfl, numB_big j m hm, ?_⟩
    rw [Nat.pow_succ] at hk
    omega
theorem bs_add (a b : List UInt8) : bs a ++ bs b = bs (a ++ b) := eq_bs (by simp)
set_option maxRecDepth 100000 in
set_option maxHeartbeats 1600000 in
theorem rnumtext_any (n : Nat) (w : World) (h : n ≤ 1099511627776) :
    Calls Tryd.prog 54 #[.int .i64 n] w fun e w' => e = .returned (.string (bs (num n))) ∧ Below w.heap.size w w' := by
  have HN : Hid (num n = [] ++ numB 6 n) := by show _ = _; unfold num; rfl
  go_enter Tryd.func54, Tryd.ntmps54
  go_wp2_with fail
  go_loopw [0, 3] (fun v o wr => ∃ (k m : Nat) (pre : List UInt8), v = .int .i64 m ∧ o = .string (bs pre) ∧ num n = pre ++ numB k m ∧ m < 128 ^ (k + 1) ∧ m ≤ 1099511627776 ∧ pre.length + k ≤ 6 ∧ Below w.heap.size w wr) (fun v _ _ => (intOf v).toNat)
  case atStart => exact ⟨6, n, [], rfl, by rw [bs_nil], HN.out, by omega, h, by simp, Below.refl _ _⟩
  case round =>
    obtain ⟨k, m, pre, rfl, rfl, hn, hk, hm, hp, bel⟩ := hrel
    by_cases h128 : 128 ≤ m
    · have hI : (128 : Int) ≤ m := by omega
      obtain ⟨j, rfl, e1, e2⟩ := rnt_step h128 hk
      have hb := byte_ofNat (m % 128 + 128) (by omega)
      have RB := Lib.hid (fun w' => rbyte_any (UInt8.ofNat (m % 128 + 128)) w')
      rw [hb] at RB
      have e3 : ((m % 128 + 128 : Nat) : Int) = (m : Int) % 128 + 128 := by omega
      rw [e3] at RB
      have HN2 : Hid (num n = (pre ++ [UInt8.ofNat (m % 128 + 128)]) ++ numB j (m / 128)) := by show _ = _; rw [hn, e1]; simp
      have HE2 := Lib.hid e2
      have HL : Hid ((pre ++ [UInt8.ofNat (m % 128 + 128)]).length + j ≤ 6) := by show _ ≤ _; simp; omega
      have hcat : ¬ 9223372036854775807 < pre.length + 1 := by omega
      have hcat2 : ¬ 9223372036854775807 < pre.length + [UInt8.ofNat (m % 128 + 128)].length := by simp; omega
      clear hn e1 e2 hb hk e3
      generalize UInt8.ofNat (m % 128 + 128) = c at *
      go_wp2_with fail
      refine (RB.out _).mono ?_
      rintro e w1 ⟨rfl, b1⟩
      have bel1 := below_trans' bel b1
      clear bel b1 RB
      go_wp2_with fail
      go_roundw
      case rel => exact ⟨j, m / 128, pre ++ [c], by go_num, by rw [bs_add], HN2.out, HE2.out, by omega, HL.out, bel1⟩
      case measure => simp [intOf]; omega
    · have hI : ¬ (128 : Int) ≤ m := by omega
      have hb := byte_ofNat m (by omega)
      have RB := Lib.hid (fun w' => rbyte_any (UInt8.ofNat m) w')
      rw [hb] at RB
      have HN2 : Hid (num n = pre ++ [UInt8.ofNat m]) := by show _ = _; rw [hn, numB_small k m (by omega)]
      have hcat : ¬ 9223372036854775807 < pre.length + 1 := by omega
      clear hn hb hk
      generalize UInt8.ofNat m = c at *
      go_wp2_with fail
      refine (RB.out _).mono ?_
      rintro e w1 ⟨rfl, b1⟩
      have bel1 := below_trans' bel b1
      clear bel b1 RB
      go_wp2_with fail
      go_ret
      exact ⟨by rw [HN2.out]; first | rfl | (rw [bs_add]; rfl), bel1⟩
theorem rcounted_any (s : ByteArray) (w : World) (h : s.size ≤ 100000) :
    Calls Tryd.prog 55 #[.string s] w fun e w' => e = .returned (.string (bs (num s.size ++ s.data.toList))) ∧ Below w.heap.size w w' := by
  have NT := Lib.hid (rnumtext_any s.size w (by omega))
  have hl := num_len s.size
  have hcat : ¬ 9223372036854775807 < (num s.size).length + s.size := by omega
  have HF : Hid (bs (num s.size) ++ s = bs (num s.size ++ s.data.toList)) := eq_bs (by simp)
  go_enter Tryd.func55, Tryd.ntmps55
  go_wp2_with fail
  refine NT.out.mono ?_
  rintro e w1 ⟨rfl, b1⟩
  go_wp2_with fail
  go_ret
  exact ⟨by first | rfl | (rw [HF.out]; rfl) | (rw [← HF.out]; rfl), b1⟩

/-- the place behind a number -/
def nAt (len at' : Nat) (l : List UInt8) : Nat := if gC l = 0 then len - (gR l).length else at'
theorem nAt_ok {len at' : Nat} {l : List UInt8} (h : gC l = 0) : nAt len at' l = len - (gR l).length := by simp [nAt, h]
theorem nAt_bad {len at' : Nat} {l : List UInt8} (h : gC l ≠ 0) : nAt len at' l = at' := by simp [nAt, h]
theorem getA_rest (k : Nat) : ∀ i acc l, (getA k i acc l).2.2 = 0 → (getA k i acc l).2.1 = l.drop (l.length - (getA k i acc l).2.1.length) ∧ (getA k i acc l).2.1.length < l.length := by
  induction k with
  | zero => intro i acc l h; simp [getA] at h
  | succ k ih =>
    intro i acc l h
    cases l with
    | nil => simp [getA] at h
    | cons c l =>
      by_cases h1 : 128 ≤ c.toNat
      · rw [getA_more h1] at h ⊢
        obtain ⟨e1, e2⟩ := ih _ _ _ h
        refine ⟨?_, by simp; omega⟩
        have : (c :: l).length - (getA k (i + 1) (acc + c.toNat % 128 * 128 ^ i) l).2.1.length = (l.length - (getA k (i + 1) (acc + c.toNat % 128 * 128 ^ i) l).2.1.length) + 1 := by simp; omega
        rw [this, List.drop_succ_cons]
        exact e1
      · by_cases h2 : c.toNat = 0 ∧ 0 < i
        · rw [getA_zero h2.1 h2.2] at h; simp at h
        · by_cases h3 : 1099511627776 < acc + c.toNat % 128 * 128 ^ i
          · rw [getA_over (by omega) h2 h3] at h; simp at h
          · rw [getA_done (by omega) h2 h3]
            refine ⟨?_, by simp⟩
            simp
theorem gR_drop {l : List UInt8} (h : gC l = 0) : gR l = l.drop (l.length - (gR l).length) ∧ (gR l).length < l.length := by
  unfold gC getL at h
  unfold gR getL
  exact getA_rest 6 0 0 l h
theorem nAt_drop {s : List UInt8} {at' : Nat} (h : gC (s.drop at') = 0) : s.drop (nAt s.length at' (s.drop at')) = gR (s.drop at') ∧ nAt s.length at' (s.drop at') ≤ s.length ∧ at' < nAt s.length at' (s.drop at') := by
  obtain ⟨e1, e2⟩ := gR_drop h
  rw [nAt_ok h]
  rw [List.length_drop] at e1 e2
  refine ⟨?_, by omega, by omega⟩
  conv => rhs; rw [e1]
  rw [List.drop_drop]
  congr 1; omega
attribute [irreducible] nAt
end Go.Proofs.YtkojhnmchbhbbaaDoor
