/- The walk of the law WeakSlides. -/
import Derived.Test.YtmpikgkaoafclaaWeakAll
import Derived.Outline
namespace Go.Proofs.Ytmpikgkaoafclaa
open Go.RowKit

theorem win_eq (s : ByteArray) (n i k : Nat) (h : ((s.extract i (i + n)).toList == (s.extract k (k + n)).toList) = true) : win s.data.toList n i = win s.data.toList n k := by
  have := eq_of_beq h
  rw [ByteArray.toList_eq, ByteArray.toList_eq] at this
  simp at this
  unfold win; rw [this]

set_option maxRecDepth 100000 in
set_option maxHeartbeats 3200000 in
theorem weakSlides_walk (s : ByteArray) (n : Int) (w : World) :
    Calls Try.prog 4 #[.string s, .int .i64 n] w fun e w' => e = .returned (.bool true) ∧ Below w.heap.size w w' := by
  by_cases h : s.size ≤ 200 ∧ 1 ≤ n ∧ n ≤ s.size
  · obtain ⟨hs, hn1, hn2⟩ := h
    obtain ⟨k, rfl⟩ := Int.eq_ofNat_of_zero_le (show 0 ≤ n by omega)
    have hk1 : 1 ≤ k := by omega
    have hk2 : k ≤ s.size := by omega
    have hl : s.data.toList.length = s.size := by simp
    go_enter Try.func4, Try.ntmps4
    go_wp2_with (first | (go_at_call 9; refine (weighed_any _).mono ?_; rintro e w' ⟨rfl, rfl⟩))
    refine (all_yes s k _ hk1 (by omega) hk2 (by omega)).mono ?_
    rintro e w1 ⟨v, rfl, hown, hbel⟩
    obtain ⟨g, cap, rfl, hg1, hg2, hc1, hc2, hcell, _⟩ := owns_open hown (by omega)
    have el : ((s.size - k + 1 : Nat) : Int) = (s.size : Int) - k + 1 := by omega
    go_wp2_with fail
    clear hown el
    go_loopw [7, 8] (fun i q wr => ∃ j m : Nat, j ≤ s.size - k + 1 ∧ i = .int .i64 j ∧ wr = w1.drewN m) (fun i _ _ => s.size - k + 1 - (intOf i).toNat)
    case atStart => exact ⟨0, 0, by omega, rfl, rfl⟩
    case round =>
      obtain ⟨j, m, hj, rfl, rfl⟩ := hrel
      by_cases hlt : j < s.size - k + 1
      · have hcj : w1.cell? ⟨g, j, none⟩ = some (.int .i64 (win s.data.toList k j)) := hcell j _ (wins_at _ _ _ _ hlt)
        have hkj : k + j ≤ s.size := by omega
        have b1 : decide (win s.data.toList k j < 0) = false := by have := (win_bd s.data.toList k j).1; simp; omega
        have b2 : decide (4294967296 ≤ win s.data.toList k j) = false := by have := (win_bd s.data.toList k j).2; simp; omega
        have hlt2 : (j : Int) < ((s.size - k : Nat) : Int) + 1 := by omega
        have HC := Lib.hid hcell
        clear hcell
        go_wp2_with fail
        have e1 : IntKind.i64.wrap ((j : Int) + k) = (j : Int) + k := IntWalk.i64_in _ (by omega)
        have e2 : ((j : Int) + k).toNat = j + k := by omega
        have e3 : (0 : Int) ≤ (j : Int) + k := by omega
        have e5 : (j : Int) ≤ (j : Int) + k := by omega
        have e6 : (j : Int) + k ≤ s.size := by omega
        have hx : (s.extract j (j + k)).size ≤ 100000 := by simp; omega
        have hw : (win s.data.toList k j != ws (List.take k (List.drop j s.data.toList))) = false := by simp [win]
        go_quiet ((go_at_call 11; first | exact quiet_left (weakSum_any _ _ hx) | exact quiet_add_left (weakSum_any _ _ hx)))
        clear e1 e2 e3 e5 e6 hx
        go_wp2_with fail
        by_cases hz : j = 0
        · have d0 : decide (0 < (j : Int)) = false := by simp; omega
          go_quiet (fail)
          clear d0 hcj b1 b2 hw
          go_wp2_with fail
          go_loopw [8] (fun q wr => ∃ p m : Nat, p ≤ j ∧ q = .int .i64 p ∧ wr = w1.drewN m) (fun q _ => j - (intOf q).toNat)
          case atStart => exact ⟨0, _, by omega, rfl, by rw [World.drewN_drewN, World.drewN_drewN]⟩
          case round =>
            obtain ⟨q, m', hq, rfl, rfl⟩ := hrel
            have hqj : ¬ (q : Int) < (j : Int) := by omega
            have HZ := Lib.hid hz
            clear hz
            go_wp2_with fail
            go_roundw
            case rel => exact ⟨j + 1, m', by omega, by go_num, rfl⟩
            case measure => simp [intOf]; omega
        · have d0 : 0 < j := by omega
          have f1 : IntKind.i64.wrap ((j : Int) - 1) = (j : Int) - 1 := IntWalk.i64_in _ (by omega)
          have f2 : ((j : Int) - 1).toNat = j - 1 := by omega
          have f3 : (1 : Int) ≤ (j : Int) := by omega
          have f4 : (j : Int) - 1 < ((s.size - k : Nat) : Int) + 1 := by omega
          have f5 : (0 : Int) ≤ (j : Int) - 1 := by omega
          have f6 : j - 1 < s.size := by omega
          have f7 : (j : Int) - 1 < s.size := by omega
          have f8 : IntKind.i64.wrap ((j : Int) + k) = (j : Int) + k := IntWalk.i64_in _ (by omega)
          have f9 : IntKind.i64.wrap ((j : Int) + k - 1) = (j : Int) + k - 1 := IntWalk.i64_in _ (by omega)
          have f10 : ((j : Int) + k - 1).toNat = j + k - 1 := by omega
          have f11 : (0 : Int) ≤ (j : Int) + k - 1 := by omega
          have f12 : (j : Int) + k - 1 < s.size := by omega
          have f13 : j + k - 1 < s.size := by omega
          have f14 : (1 : Int) ≤ (j : Int) + k := by omega
          have hcp : w1.cell? ⟨g, j - 1, none⟩ = some (.int .i64 (win s.data.toList k (j - 1))) := HC.out (j - 1) _ (wins_at _ _ _ _ (by omega))
          have hr : (win s.data.toList k j != rollZ (win s.data.toList k (j - 1)) k s[j - 1].toNat s[j + k - 1].toNat) = false := by
            have := win_snoc s.data.toList k (j - 1) hk1 (by omega) (by omega)
            have e1 : j - 1 + 1 = j := by omega
            have e2 : k + (j - 1) = j + k - 1 := by omega
            simp only [e1, e2] at this
            rw [← this]
            simp
            rfl
          go_quiet ((go_at_call 10; first | exact quiet_left (roll_any _ _ _ _ _) | exact quiet_add_left (roll_any _ _ _ _ _)))
          clear f1 f8 f9 hcp hw b1 b2
          go_wp2_with fail
          go_loopw [8] (fun q wr => ∃ p m : Nat, p ≤ j ∧ q = .int .i64 p ∧ wr = w1.drewN m) (fun q _ => j - (intOf q).toNat)
          case atStart => exact ⟨0, _, by omega, rfl, by rw [World.drewN_drewN, World.drewN_drewN]⟩
          case round =>
            obtain ⟨q, m', hq, rfl, rfl⟩ := hrel
            by_cases hqj : q < j
            · have hcq : w1.cell? ⟨g, q, none⟩ = some (.int .i64 (win s.data.toList k q)) := HC.out q _ (wins_at _ _ _ _ (by omega))
              go_wp2_with fail
              have e1 : IntKind.i64.wrap ((j : Int) + k) = (j : Int) + k := IntWalk.i64_in _ (by omega)
              have e2 : ((j : Int) + k).toNat = j + k := by omega
              have e3 : (0 : Int) ≤ (j : Int) + k := by omega
              have e5 : (j : Int) ≤ (j : Int) + k := by omega
              have e6 : (j : Int) + k ≤ s.size := by omega
              have e7 : IntKind.i64.wrap ((q : Int) + k) = (q : Int) + k := IntWalk.i64_in _ (by omega)
              have e8 : ((q : Int) + k).toNat = q + k := by omega
              have e9 : (0 : Int) ≤ (q : Int) + k := by omega
              have e10 : (q : Int) ≤ (q : Int) + k := by omega
              have e11 : (q : Int) + k ≤ s.size := by omega
              have e12 : (q : Int) < ((s.size - k : Nat) : Int) + 1 := by omega
              by_cases hsame : ((s.extract j (j + k)).toList == (s.extract q (q + k)).toList) = true
              · have hw2 : (win s.data.toList k j != win s.data.toList k q) = false := by rw [win_eq _ _ _ _ hsame]; simp
                go_quiet (fail)
                clear e1 e2 e7 e8 hsame
                go_wp2_with fail
                go_roundw
                case rel => exact ⟨q + 1, m' + nq, by omega, by go_num, rfl⟩
                case measure => simp [intOf]; omega
              · have hsame2 : ((s.extract j (j + k)).toList == (s.extract q (q + k)).toList) = false := by simpa using hsame
                clear hsame
                go_quiet (fail)
                clear e1 e2 e7 e8 hsame2
                go_wp2_with fail
                go_roundw
                case rel => exact ⟨q + 1, m' + nq, by omega, by go_num, rfl⟩
                case measure => simp [intOf]; omega
            · have hqj' : ¬ (q : Int) < (j : Int) := by omega
              go_wp2_with fail
              go_roundw
              case rel => exact ⟨j + 1, m', by omega, by go_num, rfl⟩
              case measure => simp [intOf]; omega
      · have hlt3 : ¬ (j : Int) < ((s.size - k : Nat) : Int) + 1 := by omega
        clear hcell
        go_wp2_with fail
        go_ret
        exact ⟨rfl, below_drewN hbel _⟩
  · have h' : 200 < s.size ∨ n < 1 ∨ s.size < n := by omega
    clear h
    go_enter Try.func4, Try.ntmps4
    go_wp2_with (first | (go_at_call 9; refine (weighed_any _).mono ?_; rintro e w' ⟨rfl, rfl⟩))
    all_goals first | (go_ret; exact ⟨rfl, Below.refl _ _⟩) | (exfalso; omega)
end Go.Proofs.Ytmpikgkaoafclaa
