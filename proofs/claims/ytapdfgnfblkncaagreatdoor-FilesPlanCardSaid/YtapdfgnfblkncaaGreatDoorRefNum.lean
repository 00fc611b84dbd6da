/- The document's numbers and texts: Byte, NumText, Counted, NumOf, TextOf. -/
import Derived.Test.YtapdfgnfblkncaaGreatDoorNum
import Derived.Handy
namespace Go.Proofs.YtapdfgnfblkncaaGreatDoor
open Go.RowKit
set_option linter.unusedVariables false

theorem rbyte_any (c : UInt8) (w : World) : Calls Tryz.prog 49 #[.int .i64 c.toNat] w fun e w' => e = .returned (.string (bs [c])) ∧ Below w.heap.size w w' := by
  have hc := c.toNat_lt
  have CV := fun (w' : World) => conv_one (P := Tryz.prog) w' 68 9 5 Tryz.underlying68 Tryz.underlying5 Tryz.underlying9 w.heap.size 1 c
  have HCV := Lib.hid (CV (w.alloc (.cells #[.int .u8 c.toNat] 5)) (by simp))
  have hcv := HCV.out
  have HB := Lib.hid (show bs [c] = ⟨#[c]⟩ by unfold bs; rfl)
  have x1 : (c.toNat : Int) < 256 := by omega
  clear CV HCV
  go_enter Tryz.func49, Tryz.ntmps49
  go_wp2_with fail
  go_ret
  exact ⟨by rw [HB.out]; rfl, (Below.refl _ w).alloc (Nat.le_refl _) _⟩

theorem rnt_step {k m : Nat} (hm : 128 ≤ m) (hk : m < 128 ^ (k + 1)) : ∃ j, k = j + 1 ∧ numB k m = UInt8.ofNat (m % 128 + 128) :: numB j (m / 128) ∧ m / 128 < 128 ^ (j + 1) := by
  cases k with
  | zero => simp at hk; omega
  | succ j =>
    refine ⟨j, rfl, numB_big j m hm, ?_⟩
    rw [Nat.pow_succ] at hk
    omega
theorem bs_add (a b : List UInt8) : bs a ++ bs b = bs (a ++ b) := eq_bs (by simp)
set_option maxRecDepth 100000 in
set_option maxHeartbeats 1600000 in
theorem rnumtext_any (n : Nat) (w : World) (h : n ≤ 1099511627776) :
    Calls Tryz.prog 28 #[.int .i64 n] w fun e w' => e = .returned (.string (bs (num n))) ∧ Below w.heap.size w w' := by
  have HN : Hid (num n = [] ++ numB 6 n) := by show _ = _; unfold num; rfl
  go_enter Tryz.func28, Tryz.ntmps28
  go_wp2_with fail
  go_loopw [0, 3] (fun v o wr => ∃ (k m : Nat) (pre : List UInt8), v = .int .i64 m ∧ o = .string (bs pre) ∧ num n = pre ++ numB k m ∧ m < 128 ^ (k + 1) ∧ m ≤ 1099511627776 ∧ pre.length + k ≤ 6 ∧ Below w.heap.size w wr) (fun v _ _ => (intOf v).toNat)
  case atStart => exact ⟨6, n, [], rfl, by rw [bs_nil], HN.out, by omega, h, by simp, Below.refl _ _⟩
  case round =>
    obtain ⟨k, m, pre, rfl, rfl, hn, hk, hm, hp, bel⟩ := hrel
    by_cases h128 : 128 ≤ m
    · have hI : (128 : Int) ≤ m := by omega
      obtain ⟨j, rfl, e1, e2⟩ := rnt_step h128 hk
      have hb := byte_ofNat (m % 128 + 128) (by omega)
      have RB := Lib.hid (fun w' => rbyte_any (UInt8.ofNat (m % 128 + 128)) w')
      rw [hb] at RB
      have e3 : ((m % 128 + 128 : Nat) : Int) = (m : Int) % 128 + 128 := by omega
      rw [e3] at RB
      have HN2 : Hid (num n = (pre ++ [UInt8.ofNat (m % 128 + 128)]) ++ numB j (m / 128)) := by show _ = _; rw [hn, e1]; simp
      have HE2 := Lib.hid e2
      have HL : Hid ((pre ++ [UInt8.ofNat (m % 128 + 128)]).length + j ≤ 6) := by show _ ≤ _; simp; omega
      have hcat : ¬ 9223372036854775807 < pre.length + 1 := by omega
      have hcat2 : ¬ 9223372036854775807 < pre.length + [UInt8.ofNat (m % 128 + 128)].length := by simp; omega
      clear hn e1 e2 hb hk e3
      generalize UInt8.ofNat (m % 128 + 128) = c at *
      go_wp2_with fail
      refine (RB.out _).mono ?_
      rintro e w1 ⟨rfl, b1⟩
      have bel1 := below_trans' bel b1
      clear bel b1 RB
      go_wp2_with fail
      go_roundw
      case rel => exact ⟨j, m / 128, pre ++ [c], by go_num, by rw [bs_add], HN2.out, HE2.out, by omega, HL.out, bel1⟩
      case measure => simp [intOf]; omega
    · have hI : ¬ (128 : Int) ≤ m := by omega
      have hb := byte_ofNat m (by omega)
      have RB := Lib.hid (fun w' => rbyte_any (UInt8.ofNat m) w')
      rw [hb] at RB
      have HN2 : Hid (num n = pre ++ [UInt8.ofNat m]) := by show _ = _; rw [hn, numB_small k m (by omega)]
      have hcat : ¬ 9223372036854775807 < pre.length + 1 := by omega
      clear hn hb hk
      generalize UInt8.ofNat m = c at *
      go_wp2_with fail
      refine (RB.out _).mono ?_
      rintro e w1 ⟨rfl, b1⟩
      have bel1 := below_trans' bel b1
      clear bel b1 RB
      go_wp2_with fail
      go_ret
      exact ⟨by rw [HN2.out]; first | rfl | (rw [bs_add]; rfl), bel1⟩
theorem rcounted_any (s : ByteArray) (w : World) (h : s.size ≤ 100000) :
    Calls Tryz.prog 29 #[.string s] w fun e w' => e = .returned (.string (bs (num s.size ++ s.data.toList))) ∧ Below w.heap.size w w' := by
  have NT := Lib.hid (rnumtext_any s.size w (by omega))
  have hl := num_len s.size
  have hcat : ¬ 9223372036854775807 < (num s.size).length + s.size := by omega
  have HF : Hid (bs (num s.size) ++ s = bs (num s.size ++ s.data.toList)) := eq_bs (by simp)
  go_enter Tryz.func29, Tryz.ntmps29
  go_wp2_with fail
  refine NT.out.mono ?_
  rintro e w1 ⟨rfl, b1⟩
  go_wp2_with fail
  go_ret
  exact ⟨by first | rfl | (rw [HF.out]; rfl) | (rw [← HF.out]; rfl), b1⟩

/-- the place behind a number -/
def nAt (len at' : Nat) (l : List UInt8) : Nat := if gC l = 0 then len - (gR l).length else at'
theorem nAt_ok {len at' : Nat} {l : List UInt8} (h : gC l = 0) : nAt len at' l = len - (gR l).length := by simp [nAt, h]
theorem nAt_bad {len at' : Nat} {l : List UInt8} (h : gC l ≠ 0) : nAt len at' l = at' := by simp [nAt, h]
theorem getA_rest (k : Nat) : ∀ i acc l, (getA k i acc l).2.2 = 0 → (getA k i acc l).2.1 = l.drop (l.length - (getA k i acc l).2.1.length) ∧ (getA k i acc l).2.1.length < l.length := by
  induction k with
  | zero => intro i acc l h; simp [getA] at h
  | succ k ih =>
    intro i acc l h
    cases l with
    | nil => simp [getA] at h
    | cons c l =>
      by_cases h1 : 128 ≤ c.toNat
      · rw [getA_more h1] at h ⊢
        obtain ⟨e1, e2⟩ := ih _ _ _ h
        refine ⟨?_, by simp; omega⟩
        have : (c :: l).length - (getA k (i + 1) (acc + c.toNat % 128 * 128 ^ i) l).2.1.length = (l.length - (getA k (i + 1) (acc + c.toNat % 128 * 128 ^ i) l).2.1.length) + 1 := by simp; omega
        rw [this, List.drop_succ_cons]
        exact e1
      · by_cases h2 : c.toNat = 0 ∧ 0 < i
        · rw [getA_zero h2.1 h2.2] at h; simp at h
        · by_cases h3 : 1099511627776 < acc + c.toNat % 128 * 128 ^ i
          · rw [getA_over (by omega) h2 h3] at h; simp at h
          · rw [getA_done (by omega) h2 h3]
            refine ⟨?_, by simp⟩
            simp
theorem gR_drop {l : List UInt8} (h : gC l = 0) : gR l = l.drop (l.length - (gR l).length) ∧ (gR l).length < l.length := by
  unfold gC getL at h
  unfold gR getL
  exact getA_rest 6 0 0 l h
theorem nAt_drop {s : List UInt8} {at' : Nat} (h : gC (s.drop at') = 0) : s.drop (nAt s.length at' (s.drop at')) = gR (s.drop at') ∧ nAt s.length at' (s.drop at') ≤ s.length ∧ at' < nAt s.length at' (s.drop at') := by
  obtain ⟨e1, e2⟩ := gR_drop h
  rw [nAt_ok h]
  rw [List.length_drop] at e1 e2
  refine ⟨?_, by omega, by omega⟩
  conv => rhs; rw [e1]
  rw [List.drop_drop]
  congr 1; omega
attribute [irreducible] nAt
end Go.Proofs.YtapdfgnfblkncaaGreatDoor
/- The document's NumOf, TextOf. -/
namespace Go.Proofs.YtapdfgnfblkncaaGreatDoor
open Go.RowKit
set_option linter.unusedVariables false

theorem acc_step (acc x P Q : Nat) (a1 : acc < P) (a2 : x ≤ 127 * P) (a3 : Q = P * 128) : acc + x < Q := by omega
theorem pow128_pos (k : Nat) : 1 ≤ 128 ^ k := Nat.pos_of_ne_zero (by simp)
set_option maxRecDepth 100000 in
set_option maxHeartbeats 3200000 in
theorem rnumof_any (s : ByteArray) (p : Nat) (w : World) (hs : s.size ≤ 1000000000) (hp : p ≤ s.size) :
    Calls Tryz.prog 34 #[.string s, .int .i64 p] w fun e w' => e = .returned (.tuple #[.int .i64 (gN (s.data.toList.drop p)), .int .i64 (nAt s.size p (s.data.toList.drop p)), .int .i64 (gC (s.data.toList.drop p))]) ∧ w = w' := by
  have hl : (s.data.toList.drop p).length = s.size - p := by simp
  have hget : ∀ j (h : j < s.size - p), ∃ h2 : p + j < s.size, (s.data.toList.drop p).drop j = s[p + j] :: (s.data.toList.drop p).drop (j + 1) := by
    intro j h
    refine ⟨by omega, ?_⟩
    rw [List.drop_drop, List.drop_drop, List.drop_eq_getElem_cons (by simp; omega)]; rfl
  have HG := Lib.hid hget
  have HL := Lib.hid hl
  generalize s.data.toList.drop p = L at *
  have fin : ∀ (n : Nat) (r : List UInt8) (c : Nat), getL L = (n, r, c) → gN L = n ∧ gR L = r ∧ gC L = c := by
    intro n r c h; simp [gN, gR, gC, h]
  have FIN := Lib.hid fin
  clear fin hget hl
  go_enter Tryz.func34, Tryz.ntmps34
  go_wp2_with fail
  go_loop [7, 8, 9, 10] (fun n b i _ => ∃ k acc P : Nat, k ≤ 6 ∧ k ≤ s.size - p ∧ i = .int .i64 k ∧ n = .int .i64 acc ∧ b = .int .i64 P ∧ P = 128 ^ k ∧ acc < 128 ^ k ∧ getL L = getA (6 - k) k acc (L.drop k)) (fun _ _ i _ => 6 - (intOf i).toNat)
  case atStart => exact ⟨0, 0, 1, by omega, by omega, rfl, rfl, rfl, rfl, by decide, by simp [getL]⟩
  case round =>
    obtain ⟨k, acc, P, hk6, hks, rfl, rfl, rfl, hP, hacc, hgl⟩ := hrel
    by_cases hlt : k < 6 ∧ k < s.size - p
    · obtain ⟨hlt1, hlt2⟩ := hlt
      have hI1 : (k : Int) < 6 := by omega
      obtain ⟨hpk, hdrop⟩ := HG.out k hlt2
      have hI2 : ¬ (s.size : Int) ≤ (p : Int) + k := by omega
      have hI3 : (p : Int) + k < s.size := by omega
      have hI4 : ((p : Int) + k).toNat = p + k := by omega
      have h5 : 6 - k = (5 - k) + 1 := by omega
      rw [hdrop, h5] at hgl
      have hcb : s[p + k].toNat < 256 := s[p + k].toNat_lt
      have hp' := pow128 k hlt1
      have hp1 := pow128_pos k
      have hpn : 128 ^ (k + 1) = 128 ^ k * 128 := Nat.pow_succ ..
      have hx1 : s[p + k].toNat % 128 * 128 ^ k ≤ 127 * 34359738368 := Nat.mul_le_mul (by omega) hp'
      have hx0 : s[p + k].toNat % 128 * 128 ^ k ≤ 127 * 128 ^ k := Nat.mul_le_mul_right _ (by omega)
      have HP1 : Hid (P * 128 = 128 ^ (k + 1)) := by show _ = _; rw [hpn, hP]
      rw [← hP] at hp' hp1 hpn hx1 hx0 hacc
      have HGL := Lib.hid hgl
      have MORE := Lib.hid (fun (h : 128 ≤ (s[p + k]'hpk).toNat) => HGL.out.trans (getA_more (k := 5 - k) (i := k) (acc := acc) (l := L.drop (k + 1)) (c := s[p + k]) h))
      have ZERO := Lib.hid (fun (h1 : (s[p + k]'hpk).toNat = 0) (h2 : 0 < k) => FIN.out _ _ _ (HGL.out.trans (getA_zero (k := 5 - k) (i := k) (acc := acc) (l := L.drop (k + 1)) (c := s[p + k]) h1 h2)))
      have OVER := Lib.hid (fun (h1 : (s[p + k]'hpk).toNat < 128) (h2 : ¬ ((s[p + k]'hpk).toNat = 0 ∧ 0 < k)) (h3 : 1099511627776 < acc + (s[p + k]'hpk).toNat % 128 * 128 ^ k) => FIN.out _ _ _ (HGL.out.trans (getA_over (k := 5 - k) (i := k) (acc := acc) (l := L.drop (k + 1)) (c := s[p + k]) h1 h2 h3)))
      have DONE := Lib.hid (fun (h1 : (s[p + k]'hpk).toNat < 128) (h2 : ¬ ((s[p + k]'hpk).toNat = 0 ∧ 0 < k)) (h3 : ¬ 1099511627776 < acc + (s[p + k]'hpk).toNat % 128 * 128 ^ k) => FIN.out _ _ _ (HGL.out.trans (getA_done (k := 5 - k) (i := k) (acc := acc) (l := L.drop (k + 1)) (c := s[p + k]) h1 h2 h3)))
      rw [← hP] at MORE OVER DONE
      have hmul : ((s[p + k].toNat : Int) % 128) * (P : Int) = ((s[p + k].toNat % 128 * P : Nat) : Int) := by simp
      have HS := Lib.hid hP
      clear hgl hdrop HGL hP
      obtain ⟨x, hx⟩ : ∃ x, x = s[p + k].toNat % 128 * P := ⟨_, rfl⟩
      rw [← hx] at hx1 hx0 hmul MORE OVER DONE
      have hw : wrap64 (((s[p + k].toNat : Int) % 128) * (P : Int)) = x := by rw [hmul]; exact IntWalk.wrap64_in _ (by omega)
      have HXX := Lib.hid hx
      have HHW := Lib.hid hw
      have hacc3 : acc ≤ 34359738368 := by omega
      have HA2 := Lib.hid (acc_step acc x P _ hacc hx0 hpn)
      have hk5 : k ≤ 5 := by omega
      clear hx hmul hx0 hpn hacc hw h5 hks hlt1 hlt2 hk6
      by_cases h128 : 128 ≤ s[p + k].toNat
      · have h128I : (128 : Int) ≤ s[p + k].toNat := by omega
        have M := Lib.hid (MORE.out h128)
        have HE : Hid (5 - k = 6 - (k + 1)) := by show _ = _; omega
        clear MORE ZERO OVER DONE
        have hw := HHW.out
        go_wp2_with fail
        go_round
        case rel => exact ⟨k + 1, acc + x, P * 128, by omega, by omega, by go_num, by go_num, by go_num, HP1.out, HA2.out, by rw [M.out, HE.out]⟩
        case measure => simp [intOf]; omega
      · have h128I : (s[p + k].toNat : Int) < 128 := by omega
        have hlt3 : s[p + k].toNat < 128 := by omega
        by_cases hzk : s[p + k].toNat = 0 ∧ 0 < k
        · obtain ⟨hz, hk0⟩ := hzk
          have Z := Lib.hid (ZERO.out hz hk0)
          have Z2 := Lib.hid (nAt_bad (len := s.size) (at' := p) (l := L) (by rw [Z.out.2.2]; decide))
          have hk0I : (0 : Int) < k := by omega
          have hw := HHW.out
          clear MORE ZERO OVER DONE
          go_wp2_with fail
          go_ret3
          exact ⟨ret3 (by rw [Z.out.1]; rfl) (by rw [Z2.out]; rfl) (by rw [Z.out.2.2]; rfl), rfl⟩
        · have hor : s[p + k].toNat ≠ 0 ∨ s[p + k].toNat = 0 ∧ ¬ 0 < k := by omega
          by_cases hov : 1099511627776 < acc + x
          · have hovI : (1099511627776 : Int) < (acc : Int) + x := by omega
            have Z := Lib.hid (OVER.out hlt3 hzk hov)
            have Z2 := Lib.hid (nAt_bad (len := s.size) (at' := p) (l := L) (by rw [Z.out.2.2]; decide))
            clear MORE ZERO OVER DONE hzk
            have hw := HHW.out
            rcases hor with hz | ⟨hz, hk0⟩
            · have hzI : ((s[p + k].toNat : Int) == 0) = false := by rw [beq_eq_false_iff_ne]; omega
              clear hz
              go_wp2_with fail
              go_ret3
              exact ⟨ret3 (by rw [Z.out.1]; rfl) (by rw [Z2.out]; rfl) (by rw [Z.out.2.2]; rfl), rfl⟩
            · exfalso
              have : x = 0 := by rw [HXX.out, hz]; simp
              have hk00 : k = 0 := by omega
              omega
          · have hovI : ¬ (1099511627776 : Int) < (acc : Int) + x := by omega
            have Z := Lib.hid (DONE.out hlt3 hzk hov)
            have Z2 := Lib.hid (nAt_ok (len := s.size) (at' := p) (l := L) Z.out.2.2)
            have Z3 : Hid (s.size - (gR L).length = p + k + 1) := by show _ = _; rw [Z.out.2.1, List.length_drop, HL.out]; omega
            clear MORE ZERO OVER DONE hzk
            have hw := HHW.out
            rcases hor with hz | ⟨hz, hk0⟩
            · have hzI : ((s[p + k].toNat : Int) == 0) = false := by rw [beq_eq_false_iff_ne]; omega
              clear hz
              go_wp2_with fail
              go_ret3
              exact ⟨ret3 (by rw [Z.out.1]; go_num) (by rw [Z2.out, Z3.out]; go_num) (by rw [Z.out.2.2]; rfl), rfl⟩
            · have hk0I : ¬ (0 : Int) < k := by omega
              have hx0 : x = 0 := by rw [HXX.out, hz]; simp
              rw [hx0] at Z
              clear hw hovI hov hx1 hx0
              go_wp2_with fail
              go_ret3
              exact ⟨ret3 (by rw [Z.out.1]; go_num) (by rw [Z2.out, Z3.out]; go_num) (by rw [Z.out.2.2]; rfl), rfl⟩
    · have hg : gN L = 0 ∧ gR L = [] ∧ gC L = 1 := by
        apply FIN.out
        rw [hgl]
        by_cases hk6' : k = 6
        · rw [hk6']; exact getA_end _ _ _
        · rw [List.drop_eq_nil_of_le (by rw [HL.out]; omega)]; exact getA_nil _ _ _
      have Z := Lib.hid hg
      have Z2 := Lib.hid (nAt_bad (len := s.size) (at' := p) (l := L) (by rw [Z.out.2.2]; decide))
      clear hg hgl hacc hP
      by_cases hk6' : k < 6
      · have hI1 : (k : Int) < 6 := by omega
        have hI2 : (s.size : Int) ≤ (p : Int) + k := by omega
        go_wp2_with fail
        go_ret3
        exact ⟨ret3 (by rw [Z.out.1]; rfl) (by rw [Z2.out]; rfl) (by rw [Z.out.2.2]; rfl), rfl⟩
      · have hI1 : ¬ (k : Int) < 6 := by omega
        go_wp2_with fail
        go_ret3
        exact ⟨ret3 (by rw [Z.out.1]; rfl) (by rw [Z2.out]; rfl) (by rw [Z.out.2.2]; rfl), rfl⟩
end Go.Proofs.YtapdfgnfblkncaaGreatDoor
namespace Go.Proofs.YtapdfgnfblkncaaGreatDoor
open Go.RowKit
set_option linter.unusedVariables false

/-- the place behind a text -/
def tAt (len at' : Nat) (l : List UInt8) : Nat := if tC l = 0 then len - (tR l).length else at'
theorem tAt_bad {len at' : Nat} {l : List UInt8} (h : tC l ≠ 0) : tAt len at' l = at' := by simp [tAt, h]
theorem t_err1 {l : List UInt8} (h : gC l ≠ 0) : tC l = gC l ∧ tT l = [] ∧ tC l ≠ 0 := by
  have e : tC l = gC l := by simp [tC, h]
  refine ⟨e, ?_, by rw [e]; exact h⟩
  unfold tT; rw [if_neg (by rw [e]; exact h)]
theorem t_err2 {l : List UInt8} (h : gC l = 0) (h1 : 20000 < gN l) : tC l = 2 ∧ tT l = [] := by
  have e : tC l = 2 := by simp [tC, h, h1]
  refine ⟨e, ?_⟩
  unfold tT; rw [if_neg (by rw [e]; decide)]
theorem t_err3 {l : List UInt8} (h : gC l = 0) (h1 : ¬ 20000 < gN l) (h2 : (gR l).length < gN l) : tC l = 1 ∧ tT l = [] := by
  have e : tC l = 1 := by unfold tC; rw [if_neg (by simp [h]), if_neg h1, if_pos h2]
  refine ⟨e, ?_⟩
  unfold tT; rw [if_neg (by rw [e]; decide)]
theorem t_fine {l : List UInt8} (h : gC l = 0) (h1 : ¬ 20000 < gN l) (h2 : ¬ (gR l).length < gN l) : tC l = 0 ∧ tT l = (gR l).take (gN l) ∧ tR l = (gR l).drop (gN l) := by
  have e : tC l = 0 := by unfold tC; rw [if_neg (by simp [h]), if_neg h1, if_neg h2]
  refine ⟨e, ?_, ?_⟩
  · unfold tT; rw [if_pos e]
  · unfold tR; rw [if_pos e]
theorem sub_list (s : ByteArray) (i k e : Nat) (hk : e = i + k) : s.extract i e = bs ((s.data.toList.drop i).take k) := by
  apply eq_bs
  subst hk
  simp
attribute [irreducible] tAt

set_option maxRecDepth 100000 in
set_option maxHeartbeats 3200000 in
theorem rtextof_any (s : ByteArray) (p : Nat) (w : World) (hs : s.size ≤ 1000000000) (hp : p ≤ s.size) :
    Calls Tryz.prog 35 #[.string s, .int .i64 p] w fun e w' => e = .returned (.tuple #[.string (bs (tT (s.data.toList.drop p))), .int .i64 (tAt s.size p (s.data.toList.drop p)), .int .i64 (tC (s.data.toList.drop p))]) ∧ w = w' := by
  have NO := rnumof_any s p w hs hp
  have hsl : s.data.toList.length = s.size := by simp
  by_cases h0 : gC (s.data.toList.drop p) = 0
  · obtain ⟨d1, d2, d3⟩ := nAt_drop (s := s.data.toList) (at' := p) h0
    rw [hsl] at d1 d2 d3
    have d4 : (gR (s.data.toList.drop p)).length = s.size - nAt s.size p (s.data.toList.drop p) := by rw [← d1]; simp
    have SUB : ∀ n : Nat, s.extract (nAt s.size p (s.data.toList.drop p)) (nAt s.size p (s.data.toList.drop p) + n) = bs ((gR (s.data.toList.drop p)).take n) := by
      intro n; rw [sub_list s _ n _ rfl, d1]
    clear d1 d3 hsl
    generalize s.data.toList.drop p = L at *
    generalize nAt s.size p L = K at *
    have hcI : ¬ (0 : Int) < gC L := by omega
    have hgn := gN_le L
    by_cases h1 : 20000 < gN L
    · have Z := Lib.hid (t_err2 h0 h1)
      have Z2 := Lib.hid (tAt_bad (len := s.size) (at' := p) (l := L) (by rw [Z.out.1]; decide))
      have h1I : (20000 : Int) < gN L := by omega
      have HNO := Lib.hid NO
      clear NO SUB h0 d4
      go_enter Tryz.func35, Tryz.ntmps35
      go_wp2_with fail
      refine HNO.out.mono ?_
      rintro e w1 ⟨rfl, rfl⟩
      go_wp2_with fail
      go_ret3
      exact ⟨ret3 (by rw [Z.out.2, bs_nil]; rfl) (by rw [Z2.out]; rfl) (by rw [Z.out.1]; rfl), rfl⟩
    · have h1I : ¬ (20000 : Int) < gN L := by omega
      by_cases h2 : (gR L).length < gN L
      · have Z := Lib.hid (t_err3 h0 h1 h2)
        have Z2 := Lib.hid (tAt_bad (len := s.size) (at' := p) (l := L) (by rw [Z.out.1]; decide))
        have h2I : (s.size : Int) - (K : Int) < gN L := by omega
        have HNO := Lib.hid NO
        clear NO SUB h0 d4 h2
        go_enter Tryz.func35, Tryz.ntmps35
        go_wp2_with fail
        refine HNO.out.mono ?_
        rintro e w1 ⟨rfl, rfl⟩
        go_wp2_with fail
        go_ret3
        exact ⟨ret3 (by rw [Z.out.2, bs_nil]; rfl) (by rw [Z2.out]; rfl) (by rw [Z.out.1]; rfl), rfl⟩
      · have Z := Lib.hid (t_fine h0 h1 h2)
        have Z2 : Hid (tAt s.size p L = K + gN L) := by
          show _ = _
          unfold tAt
          rw [if_pos Z.out.1, Z.out.2.2, List.length_drop, d4]; omega
        have h2I : ¬ (s.size : Int) - (K : Int) < gN L := by omega
        have SS := Lib.hid (SUB (gN L))
        rw [← Z.out.2.1] at SS
        have x1 : K + gN L ≤ s.size := by omega
        have HNO := Lib.hid NO
        clear NO SUB h0 d4 h2
        generalize gN L = N at *
        have x2 : ((K : Int) + (N : Int)).toNat = K + N := by omega
        have x3 : (K : Int).toNat = K := by omega
        have x4 : (0 : Int) ≤ K := by omega
        have x5 : (K : Int) ≤ (K : Int) + (N : Int) := by omega
        have x6 : (K : Int) + (N : Int) ≤ s.size := by omega
        go_enter Tryz.func35, Tryz.ntmps35
        go_wp2_with fail
        refine HNO.out.mono ?_
        rintro e w1 ⟨rfl, rfl⟩
        go_wp2_with fail
        go_ret3
        exact ⟨ret3 (by rw [← SS.out]; rfl) (by rw [Z2.out]; go_num) (by rw [Z.out.1]; rfl), rfl⟩
  · have Z := Lib.hid (t_err1 h0)
    have Z2 := Lib.hid (tAt_bad (len := s.size) (at' := p) Z.out.2.2)
    rw [Z.out.1, Z.out.2.1, Z2.out]
    have hcI : (0 : Int) < gC (s.data.toList.drop p) := by omega
    have HNO := Lib.hid NO
    clear NO
    generalize s.data.toList.drop p = L at *
    go_enter Tryz.func35, Tryz.ntmps35
    go_wp2_with fail
    refine HNO.out.mono ?_
    rintro e w1 ⟨rfl, rfl⟩
    go_wp2_with fail
    go_ret3
    exact ⟨ret3 (by rw [bs_nil]; rfl) (by first | rfl | trivial) (by first | rfl | trivial), rfl⟩
end Go.Proofs.YtapdfgnfblkncaaGreatDoor
