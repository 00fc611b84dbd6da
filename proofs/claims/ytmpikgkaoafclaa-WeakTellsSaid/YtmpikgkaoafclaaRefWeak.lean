/- Contracts of the reference's weak sums (packhorseref1): they are those of the package weak. -/
import Derived.Test.YtmpikgkaoafclaaWeak
namespace Go.Proofs.Ytmpikgkaoafclaa
open Go.RowKit

theorem positive_any (n : Int) (w : World) (_h1 : -4611686018427387904 ≤ n) (_h2 : n ≤ 4611686018427387904) :
    Calls Try.prog 27 #[.int .i64 n] w fun e w' => e = .returned (.int .i64 (n % 65536)) ∧ w = w' := by
  have hb := Int.tmod_lt_of_pos n (show (0:Int) < 65536 by decide)
  have hc : -65536 < n.tmod 65536 := Int.lt_tmod_of_pos n (by decide)
  have hm : n.tmod 65536 = if n.tmod 65536 < 0 then n % 65536 - 65536 else n % 65536 := by
    rw [Int.tmod_eq_emod]; split <;> split <;> omega
  have HM := Lib.hid hm
  clear hm
  go_enter Try.func27, Try.ntmps27
  go_wp2
  all_goals
    go_ret
    exact ⟨ret_int (by have := HM.out; split at this <;> omega), rfl⟩

theorem isWeak_any (n : Int) (w : World) :
    Calls Try.prog 26 #[.int .i64 n] w fun e w' => e = .returned (.bool (isWeakB n)) ∧ w = w' := by
  go_enter Try.func26, Try.ntmps26
  go_wp2
  all_goals
    go_ret
    refine ⟨ret_bool ?_, rfl⟩
    simp only [isWeakB]
    first | (simp [*]; done) | (simp [*]; omega)

/-- the reference's second sum, behind k bytes -/
def wc (l : List UInt8) (k : Nat) : Nat := wb (l.take k) + (l.length - k) * wa (l.take k)
theorem wc_zero (l : List UInt8) : wc l 0 = 0 := by simp [wc, wb, wa]
theorem wc_end (l : List UInt8) : wc l l.length = wb l := by simp [wc]
theorem wc_succ (l : List UInt8) (k : Nat) (h : k < l.length) : wc l (k + 1) = wc l k + l[k].toNat * (l.length - k) := by
  unfold wc
  rw [List.take_succ_eq_append_getElem h, wb_append, wa_append]
  obtain ⟨m, hm⟩ : ∃ m, l.length - k = m + 1 := ⟨l.length - k - 1, by omega⟩
  have hm2 : l.length - (k + 1) = m := by omega
  rw [hm, hm2]
  simp only [wa, wb, List.length_cons, List.length_nil, Nat.add_mul, Nat.mul_add]
  have := Nat.mul_comm m l[k].toNat
  omega
attribute [irreducible] wc

theorem weakOf_any (s : ByteArray) (w : World) (hs : s.size ≤ 100000) :
    Calls Try.prog 14 #[.string s] w fun e w' => e = .returned (.int .i64 (ws s.data.toList)) ∧ w = w' := by
  have hsz : s.data.toList.length = s.size := by simp
  go_enter Try.func14, Try.ntmps14
  go_wp2
  go_loop [3, 4, 5] (fun a b i => ∃ k : Nat, k ≤ s.size ∧ i = .int .i64 k ∧ a = .int .i64 ((wa (s.data.toList.take k) % 65536 : Nat) : Int) ∧ b = .int .i64 ((wc s.data.toList k % 65536 : Nat) : Int))
    (fun _ _ i => s.size - (intOf i).toNat)
  case atStart => exact ⟨0, Nat.zero_le _, rfl, by simp [wa], by simp [wc_zero]⟩
  case round =>
    obtain ⟨k, hk, rfl, rfl, rfl⟩ := hrel
    by_cases hlt : k < s.size
    · have hts := take_snoc s k hlt
      have ha : wa (s.data.toList.take (k + 1)) = wa (s.data.toList.take k) + s[k].toNat := by rw [hts, wa_append]; simp [wa]
      have hb : wc s.data.toList (k + 1) = wc s.data.toList k + s[k].toNat * (s.size - k) := by
        have := wc_succ s.data.toList k (by omega)
        simp only [hsz] at this
        exact this
      have hm1 : 0 ≤ (s[k].toNat : Int) * ((s.size : Int) - k) := Int.mul_nonneg (by omega) (by omega)
      have hc : s[k].toNat < 256 := s[k].toNat_lt
      have hm2 : (s[k].toNat : Int) * ((s.size : Int) - k) ≤ 255 * 100000 := Int.mul_le_mul (by omega) (by omega) (by omega) (by omega)
      have hm3 : ((s[k].toNat * (s.size - k) : Nat) : Int) = (s[k].toNat : Int) * ((s.size : Int) - k) := by
        rw [Int.natCast_mul, Int.ofNat_sub hk]
      have HA := Lib.hid ha
      have HB := Lib.hid hb
      have HM := Lib.hid hm3
      clear ha hb hts hm3 hsz
      go_wp2
      go_round
      case rel => exact ⟨k + 1, by omega, by go_num, by rw [HA.out]; go_num, by
        rw [HB.out]
        have := HM.out
        generalize s[k].toNat * (s.size - k) = x at *
        generalize (s[k].toNat : Int) * ((s.size : Int) - k) = y at *
        go_num⟩
      case measure => simp [intOf]; omega
    · have hks : k = s.size := by omega
      subst hks
      have he : wc s.data.toList s.size = wb s.data.toList := by rw [← hsz, wc_end]
      have HE := Lib.hid he
      clear he hsz
      go_wp2
      go_ret
      exact ⟨ret_int (by rw [HE.out, List.take_of_length_le (by simp)]; simp [ws]), rfl⟩

theorem rollOf_any (a n : Int) (out inn : UInt8) (w : World) :
    Calls Try.prog 15 #[.int .i64 a, .int .i64 n, .int .u8 out.toNat, .int .u8 inn.toNat] w fun e w' =>
      e = .returned (.int .i64 (rollZ a n out.toNat inn.toNat)) ∧ w = w' := by
  have ho : out.toNat < 256 := out.toNat_lt
  have hi : inn.toNat < 256 := inn.toNat_lt
  by_cases hw : wellB a n 1 = true
  · have hz : rollZ a n out.toNat inn.toNat = rollI a n out.toNat inn.toNat := by simp [rollZ, hw]
    rw [hz]; clear hz
    obtain ⟨hw3, hw4, hw5, hw6⟩ := (wellB_iff a n 1).1 hw
    have hmul : 0 ≤ n * (out.toNat : Int) ∧ n * (out.toNat : Int) ≤ 4000 * 255 := by
      constructor
      · exact Int.mul_nonneg (by omega) (by omega)
      · exact Int.mul_le_mul (by omega) (by omega) (by omega) (by omega)
    obtain ⟨hm1, hm2⟩ := hmul
    have hq : isWeakB a = true := (isWeakB_iff a).2 ⟨hw3, hw4⟩
    have HQ := Lib.hid hq
    clear hw hq
    have hr : 0 ≤ rollA a out.toNat inn.toNat ∧ rollA a out.toNat inn.toNat < 65536 := by unfold rollA; omega
    obtain ⟨hr1, hr2⟩ := hr
    go_enter Try.func15, Try.ntmps15
    go_wp2_with fail
    refine (isWeak_any _ _).mono ?_
    rintro e w' ⟨rfl, rfl⟩
    rw [HQ.out]
    go_wp2_with fail
    refine (positive_any _ _ (by omega) (by omega)).mono ?_
    rintro e w' ⟨rfl, rfl⟩
    have hA : (a % 65536 - ↑out.toNat + ↑inn.toNat) % 65536 = rollA a out.toNat inn.toNat := by rw [rollA]
    rw [hA]
    clear hA
    go_wp2_with fail
    refine (positive_any _ _ (by omega) (by omega)).mono ?_
    rintro e w' ⟨rfl, rfl⟩
    go_wp2_with fail
    go_ret
    exact ⟨ret_int (by rw [rollI]), rfl⟩
  · have hw' : wellB a n 1 = false := by simpa using hw
    have hz : rollZ a n out.toNat inn.toNat = -1 := by simp [rollZ, hw']
    rw [hz]; clear hz hw
    have hn := (wellB_no a n 1).1 hw'
    have hb := isWeakB_iff a
    go_enter Try.func15, Try.ntmps15
    go_wp2_with fail
    refine (isWeak_any _ _).mono ?_
    rintro e w' ⟨rfl, rfl⟩
    cases hq : isWeakB a
    · clear hb hn hw' hq
      go_wp2_with fail
      go_ret
      exact ⟨rfl, rfl⟩
    · have h2 := hb.1 hq
      have h3 : n < 1 ∨ 4000 < n := by omega
      clear hb hn hw' hq
      go_wp2_with fail
      all_goals first | (go_ret; exact ⟨rfl, rfl⟩) | (exfalso; omega)

theorem joinWeak_any (a b n : Int) (w : World) :
    Calls Try.prog 16 #[.int .i64 a, .int .i64 b, .int .i64 n] w fun e w' => e = .returned (.int .i64 (joinZ a b n)) ∧ w = w' := by
  by_cases hab : wellB a n 0 = true ∧ wellB b n 0 = true
  · obtain ⟨ha, hb⟩ := hab
    have hz : joinZ a b n = joinI a b n := by simp [joinZ, ha, hb]
    rw [hz]; clear hz
    obtain ⟨a1, a2, a3, a4⟩ := (wellB_iff a n 0).1 ha
    obtain ⟨b1, b2, _, _⟩ := (wellB_iff b n 0).1 hb
    have hr1 : 0 ≤ a % 65536 := by omega
    have hr2 : a % 65536 < 65536 := by omega
    have hm1 : 0 ≤ n * (a % 65536) := Int.mul_nonneg (by omega) (by omega)
    have hm2 : n * (a % 65536) ≤ 4000 * 65535 := Int.mul_le_mul (by omega) (by omega) (by omega) (by omega)
    have hq : isWeakB a = true := (isWeakB_iff a).2 ⟨a1, a2⟩
    have hq2 : isWeakB b = true := (isWeakB_iff b).2 ⟨b1, b2⟩
    have HQ := Lib.hid hq
    have HQ2 := Lib.hid hq2
    clear ha hb hq hq2
    go_enter Try.func16, Try.ntmps16
    go_wp2_with fail
    refine (isWeak_any _ _).mono ?_
    rintro e w' ⟨rfl, rfl⟩
    rw [HQ.out]
    go_wp2_with fail
    refine (isWeak_any _ _).mono ?_
    rintro e w' ⟨rfl, rfl⟩
    rw [HQ2.out]
    go_wp2_with fail
    go_ret
    exact ⟨ret_int (by rw [joinI, show a / 65536 + b / 65536 + n * (a % 65536) = a / 65536 + n * (a % 65536) + b / 65536 by omega]), rfl⟩
  · have hz : joinZ a b n = -1 := by
      unfold joinZ
      rw [if_neg (by simpa using hab)]
    rw [hz]; clear hz
    rw [wellB_iff, wellB_iff] at hab
    have ha := isWeakB_iff a
    have hb := isWeakB_iff b
    go_enter Try.func16, Try.ntmps16
    go_wp2_with fail
    refine (isWeak_any _ _).mono ?_
    rintro e w' ⟨rfl, rfl⟩
    go_wp2_with fail
    refine (isWeak_any _ _).mono ?_
    rintro e w' ⟨rfl, rfl⟩
    cases hq : isWeakB a
    · clear ha hb hq hab
      go_wp2_with fail
      go_ret
      exact ⟨rfl, rfl⟩
    · cases hq2 : isWeakB b
      · clear ha hb hq hab hq2
        go_wp2_with fail
        go_ret
        exact ⟨rfl, rfl⟩
      · have h2 := ha.1 hq
        have h3 := hb.1 hq2
        have h4 : n < 0 ∨ 4000 < n := by omega
        clear ha hb hq hab hq2
        go_wp2_with fail
        all_goals first | (go_ret; exact ⟨rfl, rfl⟩) | (exfalso; omega)
end Go.Proofs.Ytmpikgkaoafclaa
