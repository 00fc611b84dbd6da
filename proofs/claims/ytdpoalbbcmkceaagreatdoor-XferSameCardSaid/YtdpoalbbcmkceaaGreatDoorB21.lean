/- Texts of one proof, one behind the other: Sum. -/
import Derived.Test.YtdpoalbbcmkceaaGreatDoorRows
import Derived.Test.YtdpoalbbcmkceaaGreatDoorB20
import Derived.Test.YtdpoalbbcmkceaaGreatDoorB02
import Derived.Outline
/- Contracts of the package sum, and of the reference's sums of all. -/
namespace Go.Proofs.YtdpoalbbcmkceaaGreatDoor
open Go.RowKit

theorem step_any (c : Nat) (w : World) (hc : c < 4294967296) :
    Calls Tryz.prog 73 #[.int .u32 c] w fun e w' => e = .returned (.int .u32 (cs c)) ∧ w = w' := by
  go_enter Tryz.func73, Tryz.ntmps73
  go_wp2
  go_ret
  exact ⟨ret_int (cs_walk c hc), rfl⟩

theorem more_any (c : Nat) (s : ByteArray) (w : World) (hc : c < 4294967296) (hs : s.size ≤ 100000) :
    Calls Tryz.prog 43 #[.int .u32 c, .string s] w fun e w' => e = .returned (.int .u32 (cmore c s.data.toList)) ∧ w = w' := by
  have hl : s.data.toList.length = s.size := by simp
  obtain ⟨c1, hc1⟩ : ∃ c1, c1 = c ^^^ 4294967295 := ⟨_, rfl⟩
  have hc1lt : c1 < 4294967296 := by rw [hc1]; exact xor_lt32 hc (by omega)
  have hn : bits .xor .u32 IntKind.u32.max (c : Int) = (c1 : Int) := by rw [hc1]; exact not_walk c hc
  have HC := Lib.hid hc1
  have HL := Lib.hid hl
  clear hc1 hl
  go_enter Tryz.func43, Tryz.ntmps43
  go_wp2
  clear hn
  go_loop [0, 5, 10] (fun c _ i => ∃ k : Nat, k ≤ s.size ∧ i = .int .i64 k ∧ c = .int .u32 (craw c1 (s.data.toList.take k))) (fun _ _ i => s.size - (intOf i).toNat)
  case atStart => exact ⟨0, Nat.zero_le _, rfl, by simp [craw]⟩
  case round =>
    obtain ⟨k, hk, rfl, rfl⟩ := hrel
    have hx := craw_lt (s.data.toList.take k) hc1lt
    by_cases hlt : k < s.size
    · have hts := take_snoc s k hlt
      have hnext : craw c1 (s.data.toList.take (k + 1)) = citer 8 (craw c1 (s.data.toList.take k) ^^^ s[k].toNat) := by rw [hts, craw_snoc, cf]
      have HN := Lib.hid hnext
      clear hts hnext
      have hy := xor_lt32 hx (byte_lt s[k])
      have hb := u32_xor_nat (craw c1 (s.data.toList.take k)) s[k].toNat hx (byte_lt _)
      generalize craw c1 (s.data.toList.take k) = x at *
      generalize hyy : x ^^^ s[k].toNat = y at *
      clear hyy
      have hcb : s[k].toNat < 256 := s[k].toNat_lt
      go_wp2
      clear hb
      go_loop [0, 19] (fun c i => ∃ j : Nat, j ≤ 8 ∧ i = .int .i64 j ∧ c = .int .u32 (citer j y)) (fun _ i => 8 - (intOf i).toNat)
      case atStart => exact ⟨0, by omega, rfl, by simp [citer]⟩
      case round =>
        obtain ⟨j, hj, rfl, rfl⟩ := hrel
        have hz := citer_lt j hy
        by_cases hlt8 : j < 8
        · have hs8 := Lib.hid (citer_succ j y)
          go_wp2_with (go_at_call 73; refine (step_any _ _ hz).mono ?_; rintro e w' ⟨rfl, rfl⟩)
          go_round
          case rel => exact ⟨j + 1, by omega, by go_num, by rw [hs8.out]⟩
          case measure => simp [intOf]; omega
        · have h8 : j = 8 := by omega
          subst h8
          go_wp2
          go_round
          case rel => exact ⟨k + 1, by omega, by go_num, by rw [HN.out]⟩
          case measure => simp [intOf]; omega
    · have hks : k = s.size := by omega
      subst hks
      have hn2 := not_walk _ hx
      have he : s.data.toList.take s.size = s.data.toList := List.take_of_length_le (by rw [HL.out]; omega)
      rw [he] at hn2 ⊢
      have hfin : craw c1 s.data.toList ^^^ 4294967295 = cmore c s.data.toList := by rw [HC.out, cmore]
      rw [hfin] at hn2
      clear hfin he
      generalize craw c1 s.data.toList = x at *
      go_wp2
      go_ret
      exact ⟨rfl, rfl⟩

theorem sum_any (s : ByteArray) (w : World) (hs : s.size ≤ 100000) :
    Calls Tryz.prog 27 #[.string s] w fun e w' => e = .returned (.int .u32 (csum s.data.toList)) ∧ w = w' := by
  go_enter Tryz.func27, Tryz.ntmps27
  go_wp2_with fail
  refine (more_any 0 s w (by omega) hs).mono ?_
  rintro e w' ⟨rfl, rfl⟩
  go_wp2_with fail
  go_ret
  exact ⟨ret_int (by rw [csum]), rfl⟩

theorem shift_any (c : Nat) (w : World) (hc : c < 4294967296) :
    Calls Tryz.prog 80 #[.int .i64 c] w fun e w' => e = .returned (.int .i64 (cs c)) ∧ w = w' := by
  have hx := i64_xor_nat (c / 2) 3988292384 (by omega) (by omega)
  have hx2 : bits .xor .i64 ((c : Int) / 2) 3988292384 = (((c / 2) ^^^ 3988292384 : Nat) : Int) := hx
  have HX := Lib.hid hx2
  clear hx hx2
  by_cases h : c % 2 = 1
  · have hb : (((c : Int) % 2) == 1) = true := by simp; omega
    go_enter Tryz.func80, Tryz.ntmps80
    go_wp2
    go_ret
    exact ⟨ret_int (by rw [HX.out, cs, if_pos h]), rfl⟩
  · have hb : (((c : Int) % 2) == 1) = false := by simp; omega
    go_enter Tryz.func80, Tryz.ntmps80
    go_wp2
    go_ret
    exact ⟨ret_int (by rw [cs, if_neg h]; rfl), rfl⟩

theorem moreOf_any (c : Nat) (s : ByteArray) (w : World) (hc : c < 4294967296) (hs : s.size ≤ 100000) :
    Calls Tryz.prog 49 #[.int .i64 c, .string s] w fun e w' => e = .returned (.int .i64 (cmore c s.data.toList)) ∧ w = w' := by
  have hl : s.data.toList.length = s.size := by simp
  obtain ⟨c1, hc1⟩ : ∃ c1, c1 = c ^^^ 4294967295 := ⟨_, rfl⟩
  have hc1lt : c1 < 4294967296 := by rw [hc1]; exact xor_lt32 hc (by omega)
  have hn : bits .xor .i64 (c : Int) 4294967295 = (c1 : Int) := by rw [hc1]; exact i64_xor_nat c 4294967295 hc (by omega)
  have HC := Lib.hid hc1
  have HL := Lib.hid hl
  clear hc1 hl
  go_enter Tryz.func49, Tryz.ntmps49
  go_wp2
  clear hn
  go_loop [0, 5, 6] (fun c i _ => ∃ k : Nat, k ≤ s.size ∧ i = .int .i64 k ∧ c = .int .i64 (craw c1 (s.data.toList.take k))) (fun _ i _ => s.size - (intOf i).toNat)
  case atStart => exact ⟨0, Nat.zero_le _, rfl, by simp [craw]⟩
  case round =>
    obtain ⟨k, hk, rfl, rfl⟩ := hrel
    have hx := craw_lt (s.data.toList.take k) hc1lt
    by_cases hlt : k < s.size
    · have hts := take_snoc s k hlt
      have hnext : craw c1 (s.data.toList.take (k + 1)) = citer 8 (craw c1 (s.data.toList.take k) ^^^ s[k].toNat) := by rw [hts, craw_snoc, cf]
      have HN := Lib.hid hnext
      clear hts hnext
      have hy := xor_lt32 hx (byte_lt s[k])
      have hb := i64_xor_nat (craw c1 (s.data.toList.take k)) s[k].toNat hx (byte_lt _)
      generalize craw c1 (s.data.toList.take k) = x at *
      generalize hyy : x ^^^ s[k].toNat = y at *
      clear hyy
      have hcb : s[k].toNat < 256 := s[k].toNat_lt
      go_wp2
      clear hb
      go_loop [0, 6] (fun c i => ∃ j : Nat, j ≤ 8 ∧ i = .int .i64 j ∧ c = .int .i64 (citer j y)) (fun _ i => 8 - (intOf i).toNat)
      case atStart => exact ⟨0, by omega, rfl, by simp [citer]⟩
      case round =>
        obtain ⟨j, hj, rfl, rfl⟩ := hrel
        have hz := citer_lt j hy
        by_cases hlt8 : j < 8
        · have hs8 := Lib.hid (citer_succ j y)
          go_wp2_with (go_at_call 80; refine (shift_any _ _ hz).mono ?_; rintro e w' ⟨rfl, rfl⟩)
          go_round
          case rel => exact ⟨j + 1, by omega, by go_num, by rw [hs8.out]⟩
          case measure => simp [intOf]; omega
        · have h8 : j = 8 := by omega
          subst h8
          go_wp2
          go_round
          case rel => exact ⟨k + 1, by omega, by go_num, by rw [HN.out]⟩
          case measure => simp [intOf]; omega
    · have hks : k = s.size := by omega
      subst hks
      have hn2 : bits .xor .i64 (craw c1 (s.data.toList.take s.size) : Int) 4294967295 = ((craw c1 (s.data.toList.take s.size) ^^^ 4294967295 : Nat) : Int) := i64_xor_nat _ 4294967295 hx (by omega)
      have he : s.data.toList.take s.size = s.data.toList := List.take_of_length_le (by rw [HL.out]; omega)
      rw [he] at hn2 ⊢
      have hfin : craw c1 s.data.toList ^^^ 4294967295 = cmore c s.data.toList := by rw [HC.out, cmore]
      rw [hfin] at hn2
      clear hfin he
      generalize craw c1 s.data.toList = x at *
      go_wp2
      go_ret
      exact ⟨rfl, rfl⟩

theorem sumOf_any (s : ByteArray) (w : World) (hs : s.size ≤ 100000) :
    Calls Tryz.prog 31 #[.string s] w fun e w' => e = .returned (.int .i64 (csum s.data.toList)) ∧ w = w' := by
  go_enter Tryz.func31, Tryz.ntmps31
  go_wp2_with fail
  refine (moreOf_any 0 s w (by omega) hs).mono ?_
  rintro e w' ⟨rfl, rfl⟩
  go_wp2_with fail
  go_ret
  exact ⟨ret_int (by rw [csum]), rfl⟩
end Go.Proofs.YtdpoalbbcmkceaaGreatDoor
