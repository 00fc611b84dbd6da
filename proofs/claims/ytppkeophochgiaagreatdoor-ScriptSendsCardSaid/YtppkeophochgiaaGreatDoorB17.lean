/- Texts of one proof, one behind the other: Weak. -/
import Derived.Test.YtppkeophochgiaaGreatDoorRows
import Derived.Test.YtppkeophochgiaaGreatDoorB01
/- Contracts of the package weak, and of the reference's weak sums. -/
namespace Go.Proofs.YtppkeophochgiaaGreatDoor
open Go.RowKit

theorem mod_any (n : Int) (w : World) (_h1 : -4611686018427387904 ≤ n) (_h2 : n ≤ 4611686018427387904) :
    Calls Tryz.prog 214 #[.int .i64 n] w fun e w' => e = .returned (.int .i64 (n % 65536)) ∧ w = w' := by
  have hb := Int.tmod_lt_of_pos n (show (0:Int) < 65536 by decide)
  have hc : -65536 < n.tmod 65536 := Int.lt_tmod_of_pos n (by decide)
  have hm : (n.tmod 65536 + 65536) % 65536 = n % 65536 := by
    rw [Int.tmod_eq_emod]; split <;> omega
  have HM := Lib.hid hm
  clear hm
  go_enter Tryz.func214, Tryz.ntmps214
  go_wp2
  go_ret
  exact ⟨ret_int HM.out, rfl⟩

theorem weakSum_any (s : ByteArray) (w : World) (hs : s.size ≤ 100000) :
    Calls Tryz.prog 187 #[.string s] w fun e w' => e = .returned (.int .i64 (ws s.data.toList)) ∧ w = w' := by
  go_enter Tryz.func187, Tryz.ntmps187
  go_wp2
  go_loop [3, 4, 8] (fun a b i => ∃ k : Nat, k ≤ s.size ∧ i = .int .i64 k ∧ a = .int .i64 (wa (s.data.toList.take k)) ∧ b = .int .i64 ((wb (s.data.toList.take k) % 65536 : Nat) : Int))
    (fun _ _ i => s.size - (intOf i).toNat)
  case atStart => exact ⟨0, Nat.zero_le _, rfl, by simp [wa], by simp [wb]⟩
  case round =>
    obtain ⟨k, hk, rfl, rfl, rfl⟩ := hrel
    have hl := wa_le (s.data.toList.take k)
    have hl2 : (s.data.toList.take k).length ≤ k := List.length_take_le _ _
    by_cases hlt : k < s.size
    · have hts := take_snoc s k hlt
      have ha : wa (s.data.toList.take (k + 1)) = wa (s.data.toList.take k) + s[k].toNat := by rw [hts, wa_append]; simp [wa]
      have hb : wb (s.data.toList.take (k + 1)) = wb (s.data.toList.take k) + wa (s.data.toList.take k) + s[k].toNat := by rw [hts, wb_append]; simp [wb]
      have HA := Lib.hid ha
      have HB := Lib.hid hb
      clear ha hb hts
      have hc : s[k].toNat < 256 := s[k].toNat_lt
      go_wp2
      go_round
      case rel => exact ⟨k + 1, by omega, by go_num, by rw [HA.out]; go_num, by rw [HB.out]; go_num⟩
      case measure => simp [intOf]; omega
    · have hks : k = s.size := by omega
      subst hks
      go_wp2_with (go_at_call 214; refine (mod_any _ _ (by omega) (by omega)).mono ?_; rintro e w' ⟨rfl, rfl⟩)
      go_ret
      exact ⟨ret_int (by rw [List.take_of_length_le (by simp)]; simp [ws]), rfl⟩

end Go.Proofs.YtppkeophochgiaaGreatDoor
