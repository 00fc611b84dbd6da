/- The document's NumOf, TextOf. -/
import Derived.Test.YtkojhnmchbhbbaaDoorRefNum
namespace Go.Proofs.YtkojhnmchbhbbaaDoor
open Go.RowKit
set_option linter.unusedVariables false

theorem acc_step (acc x P Q : Nat) (a1 : acc < P) (a2 : x ≤ 127 * P) (a3 : Q = P * 128) : acc + x < Q := by omega
theorem pow128_pos (k : Nat) : 1 ≤ 128 ^ k := Nat.pos_of_ne_zero (by simp)
set_option maxRecDepth 100000 in
set_option maxHeartbeats 3200000 in
theorem rnumof_any (s : ByteArray) (p : Nat) (w : World) (hs : s.size ≤ 1000000000) (hp : p ≤ s.size) :
    Calls Tryd.prog 58 #[.string s, .int .i64 p] w fun e w' => e = .returned (.tuple #[.int .i64 (gN (s.data.toList.drop p)), .int .i64 (nAt s.size p (s.data.toList.drop p)), .int .i64 (gC (s.data.toList.drop p))]) ∧ w = w' := by
  have hl : (s.data.toList.drop p).length = s.size - p := by simp
  have hget : ∀ j (h : j < s.size - p), ∃ h2 : p + j < s.size, (s.data.toList.drop p).drop j = s[p + j] :: (s.data.toList.drop p).drop (j + 1) := by
    intro j h
    refine ⟨by omega, ?_⟩
    rw [List.drop_drop, List.drop_drop, List.drop_eq_getElem_cons (by simp; omega)]; rfl
  have HG := Lib.hid hget
  have HL := Lib.hid hl
  generalize s.data.toList.drop p = L at *
  have fin : ∀ (n : Nat) (r : List UInt8) (c : Nat), getL L = (n, r, c) → gN L = n ∧ gR L = r ∧ gC L = c := by
    intro n r c h; simp [gN, gR, gC, h]
  have FIN := Lib.hid fin
  clear fin hget hl
  go_enter Tryd.func58, Tryd.ntmps58
  go_wp2_with fail
  go_loop [7, 8, 9, 10] (fun n b i _ => ∃ k acc P : Nat, k ≤ 6 ∧ k ≤ s.size - p ∧ i = .int .i64 k ∧ n = .int .i64 acc ∧ b = .int .i64 P ∧ P = 128 ^ k ∧ acc < 128 ^ k ∧ getL L = getA (6 - k) k acc (L.drop k)) (fun _ _ i _ => 6 - (intOf i).toNat)
  case atStart => exact ⟨0, 0, 1, by omega, by omega, rfl, rfl, rfl, rfl, by decide, by simp [getL]⟩
  case round =>
    obtain ⟨k, acc, P, hk6, hks, rfl, rfl, rfl, hP, hacc, hgl⟩ := hrel
    by_cases hlt : k < 6 ∧ k < s.size - p
    · obtain ⟨hlt1, hlt2⟩ := hlt
      have hI1 : (k : Int) < 6 := by omega
      obtain ⟨hpk, hdrop⟩ := HG.out k hlt2
      have hI2 : ¬ (s.size : Int) ≤ (p : Int) + k := by omega
      have hI3 : (p : Int) + k < s.size := by omega
      have hI4 : ((p : Int) + k).toNat = p + k := by omega
      have h5 : 6 - k = (5 - k) + 1 := by omega
      rw [hdrop, h5] at hgl
      have hcb : s[p + k].toNat < 256 := s[p + k].toNat_lt
      have hp' := pow128 k hlt1
      have hp1 := pow128_pos k
      have hpn : 128 ^ (k + 1) = 128 ^ k * 128 := Nat.pow_succ ..
      have hx1 : s[p + k].toNat % 128 * 128 ^ k ≤ 127 * 34359738368 := Nat.mul_le_mul (by omega) hp'
      have hx0 : s[p + k].toNat % 128 * 128 ^ k ≤ 127 * 128 ^ k := Nat.mul_le_mul_right _ (by omega)
      have HP1 : Hid (P * 128 = 128 ^ (k + 1)) := by show _ = _; rw [hpn, hP]
      rw [← hP] at hp' hp1 hpn hx1 hx0 hacc
      have HGL := Lib.hid hgl
      have MORE := Lib.hid (fun (h : 128 ≤ (s[p + k]'hpk).toNat) => HGL.out.trans (getA_more (k := 5 - k) (i := k) (acc := acc) (l := L.drop (k + 1)) (c := s[p + k]) h))
      have ZERO := Lib.hid (fun (h1 : (s[p + k]'hpk).toNat = 0) (h2 : 0 < k) => FIN.out _ _ _ (HGL.out.trans (getA_zero (k := 5 - k) (i := k) (acc := acc) (l := L.drop (k + 1)) (c := s[p + k]) h1 h2)))
      have OVER := Lib.hid (fun (h1 : (s[p + k]'hpk).toNat < 128) (h2 : ¬ ((s[p + k]'hpk).toNat = 0 ∧ 0 < k)) (h3 : 1099511627776 < acc + (s[p + k]'hpk).toNat % 128 * 128 ^ k) => FIN.out _ _ _ (HGL.out.trans (getA_over (k := 5 - k) (i := k) (acc := acc) (l := L.drop (k + 1)) (c := s[p + k]) h1 h2 h3)))
      have DONE := Lib.hid (fun (h1 : (s[p + k]'hpk).toNat < 128) (h2 : ¬ ((s[p + k]'hpk).toNat = 0 ∧ 0 < k)) (h3 : ¬ 1099511627776 < acc + (s[p + k]'hpk).toNat % 128 * 128 ^ k) => FIN.out _ _ _ (HGL.out.trans (getA_done (k := 5 - k) (i := k) (acc := acc) (l := L.drop (k + 1)) (c := s[p + k]) h1 h2 h3)))
      rw [← hP] at MORE OVER DONE
      have hmul : ((s[p + k].toNat : Int) % 128) * (P : Int) = ((s[p + k].toNat % 128 * P : Nat) : Int) := by simp
      have HS := Lib.hid hP
      clear hgl hdrop HGL hP
      obtain ⟨x, hx⟩ : ∃ x, x = s[p + k].toNat % 128 * P := ⟨_, rfl⟩
      rw [← hx] at hx1 hx0 hmul MORE OVER DONE
      have hw : wrap64 (((s[p + k].toNat : Int) % 128) * (P : Int)) = x := by rw [hmul]; exact IntWalk.wrap64_in _ (by omega)
      have HXX := Lib.hid hx
      have HHW := Lib.hid hw
      have hacc3 : acc ≤ 34359738368 := by omega
      have HA2 := Lib.hid (acc_step acc x P _ hacc hx0 hpn)
      have hk5 : k ≤ 5 := by omega
      clear hx hmul hx0 hpn hacc hw h5 hks hlt1 hlt2 hk6
      by_cases h128 : 128 ≤ s[p + k].toNat
      · have h128I : (128 : Int) ≤ s[p + k].toNat := by omega
        have M := Lib.hid (MORE.out h128)
        have HE : Hid (5 - k = 6 - (k + 1)) := by show _ = _; omega
        clear MORE ZERO OVER DONE
        have hw := HHW.out
        go_wp2_with fail
        go_round
        case rel => exact ⟨k + 1, acc + x, P * 128, by omega, by omega, by go_num, by go_num, by go_num, HP1.out, HA2.out, by rw [M.out, HE.out]⟩
        case measure => simp [intOf]; omega
      · have h128I : (s[p + k].toNat : Int) < 128 := by omega
        have hlt3 : s[p + k].toNat < 128 := by omega
        by_cases hzk : s[p + k].toNat = 0 ∧ 0 < k
        · obtain ⟨hz, hk0⟩ := hzk
          have Z := Lib.hid (ZERO.out hz hk0)
          have Z2 := Lib.hid (nAt_bad (len := s.size) (at' := p) (l := L) (by rw [Z.out.2.2]; decide))
          have hk0I : (0 : Int) < k := by omega
          have hw := HHW.out
          clear MORE ZERO OVER DONE
          go_wp2_with fail
          go_ret3
          exact ⟨ret3 (by rw [Z.out.1]; rfl) (by rw [Z2.out]; rfl) (by rw [Z.out.2.2]; rfl), rfl⟩
        · have hor : s[p + k].toNat ≠ 0 ∨ s[p + k].toNat = 0 ∧ ¬ 0 < k := by omega
          by_cases hov : 1099511627776 < acc + x
          · have hovI : (1099511627776 : Int) < (acc : Int) + x := by omega
            have Z := Lib.hid (OVER.out hlt3 hzk hov)
            have Z2 := Lib.hid (nAt_bad (len := s.size) (at' := p) (l := L) (by rw [Z.out.2.2]; decide))
            clear MORE ZERO OVER DONE hzk
            have hw := HHW.out
            rcases hor with hz | ⟨hz, hk0⟩
            · have hzI : ((s[p + k].toNat : Int) == 0) = false := by rw [beq_eq_false_iff_ne]; omega
              clear hz
              go_wp2_with fail
              go_ret3
              exact ⟨ret3 (by rw [Z.out.1]; rfl) (by rw [Z2.out]; rfl) (by rw [Z.out.2.2]; rfl), rfl⟩
            · exfalso
              have : x = 0 := by rw [HXX.out, hz]; simp
              have hk00 : k = 0 := by omega
              omega
          · have hovI : ¬ (1099511627776 : Int) < (acc : Int) + x := by omega
            have Z := Lib.hid (DONE.out hlt3 hzk hov)
            have Z2 := Lib.hid (nAt_ok (len := s.size) (at' := p) (l := L) Z.out.2.2)
            have Z3 : Hid (s.size - (gR L).length = p + k + 1) := by show _ = _; rw [Z.out.2.1, List.length_drop, HL.out]; omega
            clear MORE ZERO OVER DONE hzk
            have hw := HHW.out
            rcases hor with hz | ⟨hz, hk0⟩
            · have hzI : ((s[p + k].toNat : Int) == 0) = false := by rw [beq_eq_false_iff_ne]; omega
              clear hz
              go_wp2_with fail
              go_ret3
              exact ⟨ret3 (by rw [Z.out.1]; go_num) (by rw [Z2.out, Z3.out]; go_num) (by rw [Z.out.2.2]; rfl), rfl⟩
            · have hk0I : ¬ (0 : Int) < k := by omega
              have hx0 : x = 0 := by rw [HXX.out, hz]; simp
              rw [hx0] at Z
              clear hw hovI hov hx1 hx0
              go_wp2_with fail
              go_ret3
              exact ⟨ret3 (by rw [Z.out.1]; go_num) (by rw [Z2.out, Z3.out]; go_num) (by rw [Z.out.2.2]; rfl), rfl⟩
    · have hg : gN L = 0 ∧ gR L = [] ∧ gC L = 1 := by
        apply FIN.out
        rw [hgl]
        by_cases hk6' : k = 6
        · rw [hk6']; exact getA_end _ _ _
        · rw [List.drop_eq_nil_of_le (by rw [HL.out]; omega)]; exact getA_nil _ _ _
      have Z := Lib.hid hg
      have Z2 := Lib.hid (nAt_bad (len := s.size) (at' := p) (l := L) (by rw [Z.out.2.2]; decide))
      clear hg hgl hacc hP
      by_cases hk6' : k < 6
      · have hI1 : (k : Int) < 6 := by omega
        have hI2 : (s.size : Int) ≤ (p : Int) + k := by omega
        go_wp2_with fail
        go_ret3
        exact ⟨ret3 (by rw [Z.out.1]; rfl) (by rw [Z2.out]; rfl) (by rw [Z.out.2.2]; rfl), rfl⟩
      · have hI1 : ¬ (k : Int) < 6 := by omega
        go_wp2_with fail
        go_ret3
        exact ⟨ret3 (by rw [Z.out.1]; rfl) (by rw [Z2.out]; rfl) (by rw [Z.out.2.2]; rfl), rfl⟩
end Go.Proofs.YtkojhnmchbhbbaaDoor
