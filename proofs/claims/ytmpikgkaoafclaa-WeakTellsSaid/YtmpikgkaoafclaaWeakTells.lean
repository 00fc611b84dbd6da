/- The walk of the law WeakTells. -/
import Derived.Test.YtmpikgkaoafclaaWeakAll
import Derived.Test.YtmpikgkaoafclaaRefWeak
import Derived.Outline
namespace Go.Proofs.Ytmpikgkaoafclaa
open Go.RowKit

set_option maxRecDepth 100000 in
set_option maxHeartbeats 1600000 in
theorem weakTells_walk (s : ByteArray) (a b n : Int) (out inn : UInt8) (w : World) :
    Calls Try.prog 5 #[.string s, .int .i64 a, .int .i64 b, .int .i64 n, .int .u8 out.toNat, .int .u8 inn.toNat] w fun e w' => e = .returned (.bool true) ∧ Below w.heap.size w w' := by
  by_cases hs : s.size ≤ 300
  · by_cases hn : 1 ≤ n ∧ n ≤ s.size
    · obtain ⟨hn1, hn2⟩ := hn
      obtain ⟨k, rfl⟩ := Int.eq_ofNat_of_zero_le (show 0 ≤ n by omega)
      go_enter Try.func5, Try.ntmps5
      go_wp2_with (first | (go_at_call 9; refine (weighed_any _).mono ?_; rintro e w' ⟨rfl, rfl⟩) | (go_at_call 11; refine (weakSum_any _ _ (by omega)).mono ?_; rintro e w' ⟨rfl, rfl⟩) | (go_at_call 14; refine (weakOf_any _ _ (by omega)).mono ?_; rintro e w' ⟨rfl, rfl⟩) | (go_at_call 10; refine (roll_any _ _ _ _ _).mono ?_; rintro e w' ⟨rfl, rfl⟩) | (go_at_call 15; refine (rollOf_any _ _ _ _ _).mono ?_; rintro e w' ⟨rfl, rfl⟩) | (go_at_call 12; refine (join_any _ _ _ _).mono ?_; rintro e w' ⟨rfl, rfl⟩) | (go_at_call 16; refine (joinWeak_any _ _ _ _).mono ?_; rintro e w' ⟨rfl, rfl⟩))
      have hk1 : 1 ≤ k := by omega
      have hk2 : k ≤ s.size := by omega
      refine (all_yes s k _ hk1 (by omega) hk2 (by omega)).mono ?_
      rintro e w1 ⟨v, rfl, hown, hbel⟩
      obtain ⟨g, cap, rfl, hg1, hg2, hc1, hc2, hcell, _⟩ := owns_open hown (by omega)
      have el : ((s.size - k + 1 : Nat) : Int) = (s.size : Int) - k + 1 := by omega
      go_wp2_with fail
      go_loopw [15] (fun i wr => ∃ j m : Nat, j ≤ s.size - k + 1 ∧ i = .int .i64 j ∧ wr = w1.drewN m) (fun i _ => s.size - k + 1 - (intOf i).toNat)
      case atStart => exact ⟨0, 0, by omega, rfl, rfl⟩
      case round =>
        obtain ⟨j, m, hj, rfl, rfl⟩ := hrel
        by_cases hlt : j < s.size - k + 1
        · have hcj : w1.cell? ⟨g, j, none⟩ = some (.int .i64 (win s.data.toList k j)) := hcell j _ (wins_at _ _ _ _ hlt)
          have hkj : k + j ≤ s.size := by omega
          clear hcell hown hbel hg1 hg2 hc1 hc2 el
          have hlt2 : (j : Int) < (s.size : Int) - k + 1 := by omega
          go_wp2_with fail
          have e1 : IntKind.i64.wrap ((j : Int) + k) = (j : Int) + k := IntWalk.i64_in _ (by omega)
          have e2 : ((j : Int) + k).toNat = j + k := by omega
          have e3 : (0 : Int) ≤ (j : Int) + k := by omega
          have e4 : (j : Int) < ((s.size - k : Nat) : Int) + 1 := by omega
          have e5 : (j : Int) ≤ (j : Int) + k := by omega
          have e6 : (j : Int) + k ≤ s.size := by omega
          have hx : (s.extract j (j + k)).size ≤ 100000 := by simp; omega
          go_quiet ((go_at_call 14; first | exact quiet_left (weakOf_any _ _ hx) | exact quiet_add_left (weakOf_any _ _ hx)))
          clear e1 e2
          have hw : (win s.data.toList k j != ws (List.take k (List.drop j s.data.toList))) = false := by simp [win]
          go_wp2_with fail
          go_roundw
          case rel => exact ⟨j + 1, m + nq, by omega, by go_num, by simp⟩
          case measure => simp [intOf]; omega
        · have hj' : j = s.size - k + 1 := by omega
          have hlt3 : ¬ (j : Int) < ((s.size - k : Nat) : Int) + 1 := by omega
          clear hcell hg1 hg2 hc1 hc2 el hown hj'
          go_wp2_with fail
          go_ret
          exact ⟨rfl, below_drewN hbel _⟩
    · have hn' : n < 1 ∨ s.size < n := by omega
      go_enter Try.func5, Try.ntmps5
      go_wp2_with (first | (go_at_call 9; refine (weighed_any _).mono ?_; rintro e w' ⟨rfl, rfl⟩) | (go_at_call 11; refine (weakSum_any _ _ (by omega)).mono ?_; rintro e w' ⟨rfl, rfl⟩) | (go_at_call 14; refine (weakOf_any _ _ (by omega)).mono ?_; rintro e w' ⟨rfl, rfl⟩) | (go_at_call 10; refine (roll_any _ _ _ _ _).mono ?_; rintro e w' ⟨rfl, rfl⟩) | (go_at_call 15; refine (rollOf_any _ _ _ _ _).mono ?_; rintro e w' ⟨rfl, rfl⟩) | (go_at_call 12; refine (join_any _ _ _ _).mono ?_; rintro e w' ⟨rfl, rfl⟩) | (go_at_call 16; refine (joinWeak_any _ _ _ _).mono ?_; rintro e w' ⟨rfl, rfl⟩) | (go_at_call 13; refine (all_no _ _ _ (by omega)).mono ?_; rintro e w' ⟨rfl, rfl⟩))
      all_goals first | (go_ret; exact ⟨rfl, Below.refl _ _⟩) | (exfalso; omega)
  · go_enter Try.func5, Try.ntmps5
    go_wp2_with (first | (go_at_call 9; refine (weighed_any _).mono ?_; rintro e w' ⟨rfl, rfl⟩))
    go_ret
    exact ⟨rfl, Below.refl _ _⟩
end Go.Proofs.Ytmpikgkaoafclaa
