/- Contracts of the package weak, and of the reference's weak sums. -/
import Derived.Test.YtmpikgkaoafclaaRows
import Derived.Test.YtmpikgkaoafclaaPlain
namespace Go.Proofs.Ytmpikgkaoafclaa
open Go.RowKit

theorem mod_any (n : Int) (w : World) (_h1 : -4611686018427387904 ≤ n) (_h2 : n ≤ 4611686018427387904) :
    Calls Try.prog 25 #[.int .i64 n] w fun e w' => e = .returned (.int .i64 (n % 65536)) ∧ w = w' := by
  have hb := Int.tmod_lt_of_pos n (show (0:Int) < 65536 by decide)
  have hc : -65536 < n.tmod 65536 := Int.lt_tmod_of_pos n (by decide)
  have hm : (n.tmod 65536 + 65536) % 65536 = n % 65536 := by
    rw [Int.tmod_eq_emod]; split <;> omega
  have HM := Lib.hid hm
  clear hm
  go_enter Try.func25, Try.ntmps25
  go_wp2
  go_ret
  exact ⟨ret_int HM.out, rfl⟩

theorem weakSum_any (s : ByteArray) (w : World) (hs : s.size ≤ 100000) :
    Calls Try.prog 11 #[.string s] w fun e w' => e = .returned (.int .i64 (ws s.data.toList)) ∧ w = w' := by
  go_enter Try.func11, Try.ntmps11
  go_wp2
  go_loop [3, 4, 8] (fun a b i => ∃ k : Nat, k ≤ s.size ∧ i = .int .i64 k ∧ a = .int .i64 (wa (s.data.toList.take k)) ∧ b = .int .i64 ((wb (s.data.toList.take k) % 65536 : Nat) : Int))
    (fun _ _ i => s.size - (intOf i).toNat)
  case atStart => exact ⟨0, Nat.zero_le _, rfl, by simp [wa], by simp [wb]⟩
  case round =>
    obtain ⟨k, hk, rfl, rfl, rfl⟩ := hrel
    have hl := wa_le (s.data.toList.take k)
    have hl2 : (s.data.toList.take k).length ≤ k := List.length_take_le _ _
    by_cases hlt : k < s.size
    · have hts := take_snoc s k hlt
      have ha : wa (s.data.toList.take (k + 1)) = wa (s.data.toList.take k) + s[k].toNat := by rw [hts, wa_append]; simp [wa]
      have hb : wb (s.data.toList.take (k + 1)) = wb (s.data.toList.take k) + wa (s.data.toList.take k) + s[k].toNat := by rw [hts, wb_append]; simp [wb]
      have HA := Lib.hid ha
      have HB := Lib.hid hb
      clear ha hb hts
      have hc : s[k].toNat < 256 := s[k].toNat_lt
      go_wp2
      go_round
      case rel => exact ⟨k + 1, by omega, by go_num, by rw [HA.out]; go_num, by rw [HB.out]; go_num⟩
      case measure => simp [intOf]; omega
    · have hks : k = s.size := by omega
      subst hks
      go_wp2_with (go_at_call 25; refine (mod_any _ _ (by omega) (by omega)).mono ?_; rintro e w' ⟨rfl, rfl⟩)
      go_ret
      exact ⟨ret_int (by rw [List.take_of_length_le (by simp)]; simp [ws]), rfl⟩

theorem well_any (a n l : Int) (w : World) :
    Calls Try.prog 24 #[.int .i64 a, .int .i64 n, .int .i64 l] w fun e w' => e = .returned (.bool (wellB a n l)) ∧ w = w' := by
  go_enter Try.func24, Try.ntmps24
  go_wp2
  all_goals
    go_ret
    refine ⟨ret_bool ?_, rfl⟩
    simp only [wellB]
    first | (simp [*]; done) | (simp [*]; omega)
theorem well_yes (a n l : Int) (w : World) (h : wellB a n l = true) :
    Calls Try.prog 24 #[.int .i64 a, .int .i64 n, .int .i64 l] w fun e w' => e = .returned (.bool true) ∧ w = w' := by
  have := well_any a n l w; rwa [h] at this
theorem well_no (a n l : Int) (w : World) (h : wellB a n l = false) :
    Calls Try.prog 24 #[.int .i64 a, .int .i64 n, .int .i64 l] w fun e w' => e = .returned (.bool false) ∧ w = w' := by
  have := well_any a n l w; rwa [h] at this

theorem roll_any (a n : Int) (out inn : UInt8) (w : World) :
    Calls Try.prog 10 #[.int .i64 a, .int .i64 n, .int .u8 out.toNat, .int .u8 inn.toNat] w fun e w' =>
      e = .returned (.int .i64 (rollZ a n out.toNat inn.toNat)) ∧ w = w' := by
  have ho : out.toNat < 256 := out.toNat_lt
  have hi : inn.toNat < 256 := inn.toNat_lt
  by_cases hw : wellB a n 1 = true
  · have hz : rollZ a n out.toNat inn.toNat = rollI a n out.toNat inn.toNat := by simp [rollZ, hw]
    rw [hz]; clear hz
    have hw2 := (wellB_iff a n 1).1 hw
    have hd : a.tdiv 65536 = a / 65536 := Int.tdiv_eq_ediv_of_nonneg hw2.1
    have hmul : 0 ≤ n * (out.toNat : Int) ∧ n * (out.toNat : Int) ≤ 4000 * 255 := by
      constructor
      · exact Int.mul_nonneg (by omega) (by omega)
      · exact Int.mul_le_mul (by omega) (by omega) (by omega) (by omega)
    obtain ⟨hm1, hm2⟩ := hmul
    obtain ⟨hw3, hw4, hw5, hw6⟩ := hw2
    have HW := Lib.hid hw
    clear hw hd
    have hr : 0 ≤ rollA a out.toNat inn.toNat ∧ rollA a out.toNat inn.toNat < 65536 := by unfold rollA; omega
    obtain ⟨hr1, hr2⟩ := hr
    go_enter Try.func10, Try.ntmps10
    go_wp2_with fail
    refine (well_yes _ _ _ _ HW.out).mono ?_
    rintro e w' ⟨rfl, rfl⟩
    go_wp2_with fail
    refine (mod_any _ _ (by omega) (by omega)).mono ?_
    rintro e w' ⟨rfl, rfl⟩
    have hA : (a % 65536 - ↑out.toNat + ↑inn.toNat) % 65536 = rollA a out.toNat inn.toNat := by rw [rollA]
    rw [hA]
    clear hA
    go_wp2_with fail
    refine (mod_any _ _ (by omega) (by omega)).mono ?_
    rintro e w' ⟨rfl, rfl⟩
    go_wp2_with fail
    go_ret
    exact ⟨ret_int (by rw [rollI]), rfl⟩
  · have hw' : wellB a n 1 = false := by simpa using hw
    have hz : rollZ a n out.toNat inn.toNat = -1 := by simp [rollZ, hw']
    rw [hz]; clear hz hw
    have HW := Lib.hid hw'
    clear hw'
    go_enter Try.func10, Try.ntmps10
    go_wp2_with fail
    refine (well_no _ _ _ _ HW.out).mono ?_
    rintro e w' ⟨rfl, rfl⟩
    go_wp2_with fail
    go_ret
    exact ⟨rfl, rfl⟩

theorem join_any (a b n : Int) (w : World) :
    Calls Try.prog 12 #[.int .i64 a, .int .i64 b, .int .i64 n] w fun e w' => e = .returned (.int .i64 (joinZ a b n)) ∧ w = w' := by
  by_cases ha : wellB a n 0 = true
  · by_cases hb : wellB b n 0 = true
    · have hz : joinZ a b n = joinI a b n := by simp [joinZ, ha, hb]
      rw [hz]; clear hz
      have ha2 := (wellB_iff a n 0).1 ha
      have hb2 := (wellB_iff b n 0).1 hb
      obtain ⟨a1, a2, a3, a4⟩ := ha2
      obtain ⟨b1, b2, _, _⟩ := hb2
      have hr1 : 0 ≤ a % 65536 := by omega
      have hr2 : a % 65536 < 65536 := by omega
      have hm1 : 0 ≤ n * (a % 65536) := Int.mul_nonneg (by omega) (by omega)
      have hm2 : n * (a % 65536) ≤ 4000 * 65535 := Int.mul_le_mul (by omega) (by omega) (by omega) (by omega)
      have HA := Lib.hid ha
      have HB := Lib.hid hb
      clear ha hb
      go_enter Try.func12, Try.ntmps12
      go_wp2_with fail
      refine (well_yes _ _ _ _ HA.out).mono ?_
      rintro e w' ⟨rfl, rfl⟩
      go_wp2_with fail
      refine (well_yes _ _ _ _ HB.out).mono ?_
      rintro e w' ⟨rfl, rfl⟩
      go_wp2_with fail
      refine (mod_any _ _ (by omega) (by omega)).mono ?_
      rintro e w' ⟨rfl, rfl⟩
      go_wp2_with fail
      refine (mod_any _ _ (by omega) (by omega)).mono ?_
      rintro e w' ⟨rfl, rfl⟩
      go_wp2_with fail
      go_ret
      exact ⟨ret_int (by rw [joinI]), rfl⟩
    · have hb' : wellB b n 0 = false := by simpa using hb
      have hz : joinZ a b n = -1 := by simp [joinZ, hb']
      rw [hz]; clear hz hb
      have HA := Lib.hid ha
      have HB := Lib.hid hb'
      clear ha hb'
      go_enter Try.func12, Try.ntmps12
      go_wp2_with fail
      refine (well_yes _ _ _ _ HA.out).mono ?_
      rintro e w' ⟨rfl, rfl⟩
      go_wp2_with fail
      refine (well_no _ _ _ _ HB.out).mono ?_
      rintro e w' ⟨rfl, rfl⟩
      go_wp2_with fail
      go_ret
      exact ⟨rfl, rfl⟩
  · have ha' : wellB a n 0 = false := by simpa using ha
    have hz : joinZ a b n = -1 := by simp [joinZ, ha']
    rw [hz]; clear hz ha
    have HA := Lib.hid ha'
    clear ha'
    go_enter Try.func12, Try.ntmps12
    go_wp2_with fail
    refine (well_no _ _ _ _ HA.out).mono ?_
    rintro e w' ⟨rfl, rfl⟩
    go_wp2_with fail
    go_ret
    exact ⟨rfl, rfl⟩

theorem weighed_any (w : World) : Calls Try.prog 9 #[] w fun e w' => e = .returned (.bool true) ∧ w = w' := by
  go_enter Try.func9, Try.ntmps9
  go_wp2_with fail
  refine (weakSum_any _ _ (by decide)).mono ?_
  rintro e w' ⟨rfl, rfl⟩
  go_wp2_with fail
  go_ret
  exact ⟨ret_bool (by decide +kernel), rfl⟩
end Go.Proofs.Ytmpikgkaoafclaa
