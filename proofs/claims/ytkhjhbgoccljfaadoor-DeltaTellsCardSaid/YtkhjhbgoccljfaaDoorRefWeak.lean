/- Contracts of the reference's weak sums (packhorseref1): they are those of the package weak. -/
import Derived.Test.YtkhjhbgoccljfaaDoorWeak
namespace Go.Proofs.YtkhjhbgoccljfaaDoor
open Go.RowKit

theorem isWeak_any (n : Int) (w : World) :
    Calls Tryd.prog 53 #[.int .i64 n] w fun e w' => e = .returned (.bool (isWeakB n)) ∧ w = w' := by
  go_enter Tryd.func53, Tryd.ntmps53
  go_wp2
  all_goals
    go_ret
    refine ⟨ret_bool ?_, rfl⟩
    simp only [isWeakB]
    first | (simp [*]; done) | (simp [*]; omega)

/-- the reference's second sum, behind k bytes -/
def wc (l : List UInt8) (k : Nat) : Nat := wb (l.take k) + (l.length - k) * wa (l.take k)
theorem wc_zero (l : List UInt8) : wc l 0 = 0 := by simp [wc, wb, wa]
theorem wc_end (l : List UInt8) : wc l l.length = wb l := by simp [wc]
theorem wc_succ (l : List UInt8) (k : Nat) (h : k < l.length) : wc l (k + 1) = wc l k + l[k].toNat * (l.length - k) := by
  unfold wc
  rw [List.take_succ_eq_append_getElem h, wb_append, wa_append]
  obtain ⟨m, hm⟩ : ∃ m, l.length - k = m + 1 := ⟨l.length - k - 1, by omega⟩
  have hm2 : l.length - (k + 1) = m := by omega
  rw [hm, hm2]
  simp only [wa, wb, List.length_cons, List.length_nil, Nat.add_mul, Nat.mul_add]
  have := Nat.mul_comm m l[k].toNat
  omega
attribute [irreducible] wc

theorem weakOf_any (s : ByteArray) (w : World) (hs : s.size ≤ 100000) :
    Calls Tryd.prog 52 #[.string s] w fun e w' => e = .returned (.int .i64 (ws s.data.toList)) ∧ w = w' := by
  have hsz : s.data.toList.length = s.size := by simp
  go_enter Tryd.func52, Tryd.ntmps52
  go_wp2
  go_loop [3, 4, 5] (fun a b i => ∃ k : Nat, k ≤ s.size ∧ i = .int .i64 k ∧ a = .int .i64 ((wa (s.data.toList.take k) % 65536 : Nat) : Int) ∧ b = .int .i64 ((wc s.data.toList k % 65536 : Nat) : Int))
    (fun _ _ i => s.size - (intOf i).toNat)
  case atStart => exact ⟨0, Nat.zero_le _, rfl, by simp [wa], by simp [wc_zero]⟩
  case round =>
    obtain ⟨k, hk, rfl, rfl, rfl⟩ := hrel
    by_cases hlt : k < s.size
    · have hts := take_snoc s k hlt
      have ha : wa (s.data.toList.take (k + 1)) = wa (s.data.toList.take k) + s[k].toNat := by rw [hts, wa_append]; simp [wa]
      have hb : wc s.data.toList (k + 1) = wc s.data.toList k + s[k].toNat * (s.size - k) := by
        have := wc_succ s.data.toList k (by omega)
        simp only [hsz] at this
        exact this
      have hm1 : 0 ≤ (s[k].toNat : Int) * ((s.size : Int) - k) := Int.mul_nonneg (by omega) (by omega)
      have hc : s[k].toNat < 256 := s[k].toNat_lt
      have hm2 : (s[k].toNat : Int) * ((s.size : Int) - k) ≤ 255 * 100000 := Int.mul_le_mul (by omega) (by omega) (by omega) (by omega)
      have hm3 : ((s[k].toNat * (s.size - k) : Nat) : Int) = (s[k].toNat : Int) * ((s.size : Int) - k) := by
        rw [Int.natCast_mul, Int.ofNat_sub hk]
      have HA := Lib.hid ha
      have HB := Lib.hid hb
      have HM := Lib.hid hm3
      clear ha hb hts hm3 hsz
      go_wp2
      go_round
      case rel => exact ⟨k + 1, by omega, by go_num, by rw [HA.out]; go_num, by
        rw [HB.out]
        have := HM.out
        generalize s[k].toNat * (s.size - k) = x at *
        generalize (s[k].toNat : Int) * ((s.size : Int) - k) = y at *
        go_num⟩
      case measure => simp [intOf]; omega
    · have hks : k = s.size := by omega
      subst hks
      have he : wc s.data.toList s.size = wb s.data.toList := by rw [← hsz, wc_end]
      have HE := Lib.hid he
      clear he hsz
      go_wp2
      go_ret
      exact ⟨ret_int (by rw [HE.out, List.take_of_length_le (by simp)]; simp [ws]), rfl⟩

end Go.Proofs.YtkhjhbgoccljfaaDoor
