/- The document's isSeq, distance, IsAhead, StartOf. -/
import Derived.Test.YtnjkopjbognpiaaDoorWinPlain
import Derived.Test.YtnjkopjbognpiaaDoorMem
import Derived.Handy
namespace Go.Proofs.YtnjkopjbognpiaaDoor
open Go.RowKit
set_option linter.unusedVariables false

set_option maxRecDepth 100000 in
theorem risSeq_any (n : Int) (w : World) : Calls Tryd.prog 24 #[.int .i64 n] w fun e w' => e = .returned (.bool (wlB n)) ∧ w' = w := by
  by_cases h1 : 0 ≤ n
  · by_cases h2 : n < 65536
    · have hw := wlB_of ⟨h1, h2⟩
      go_enter Tryd.func24, Tryd.ntmps24
      go_wp2_with fail
      go_ret
      exact ⟨by first | rfl | (rw [hw]; rfl), rfl⟩
    · have hw : wlB n = false := by simp [wlB, h2]
      go_enter Tryd.func24, Tryd.ntmps24
      go_wp2_with fail
      go_ret
      exact ⟨by first | rfl | (rw [hw]; rfl), rfl⟩
  · have hw : wlB n = false := by simp [wlB, h1]
    go_enter Tryd.func24, Tryd.ntmps24
    go_wp2_with fail
    go_ret
    exact ⟨by first | rfl | (rw [hw]; rfl), rfl⟩
set_option maxRecDepth 100000 in
theorem rdist_any (a b : Int) (w : World) (ha : 0 ≤ a ∧ a < 65536) (hb : 0 ≤ b ∧ b < 65536) : Calls Tryd.prog 25 #[.int .i64 a, .int .i64 b] w fun e w' => e = .returned (.int .i64 (md (b - a))) ∧ w' = w := by
  obtain ⟨a1, a2⟩ := ha
  obtain ⟨b1, b2⟩ := hb
  by_cases h : 0 ≤ b - a
  · have hm : (b - a).tmod 65536 = b - a := by rw [Int.tmod_eq_emod_of_nonneg h]; omega
    have hw : IntKind.i64.wrap ((b - a).tmod 65536) = b - a := by rw [hm]; exact IntWalk.i64_in _ (by omega)
    have hd : md (b - a) = b - a := by unfold md; omega
    have hI : ¬ b - a < 0 := by omega
    go_enter Tryd.func25, Tryd.ntmps25
    go_wp2_with fail
    go_ret
    exact ⟨by first | rfl | (rw [hd]; rfl), rfl⟩
  · have hm : (b - a).tmod 65536 = b - a := by
      have h2 : b - a = -(a - b) := by omega
      rw [h2, Int.neg_tmod, Int.tmod_eq_emod_of_nonneg (by omega)]; omega
    have hw : IntKind.i64.wrap ((b - a).tmod 65536) = b - a := by rw [hm]; exact IntWalk.i64_in _ (by omega)
    have hd : md (b - a) = b - a + 65536 := by unfold md; omega
    have hI : b - a < 0 := by omega
    go_enter Tryd.func25, Tryd.ntmps25
    go_wp2_with fail
    go_ret
    exact ⟨by first | rfl | (rw [hd]; rfl), rfl⟩
set_option maxRecDepth 100000 in
theorem risAhead_any (a b : Int) (w : World) : Calls Tryd.prog 7 #[.int .i64 a, .int .i64 b] w fun e w' => e = .returned (.bool (aheadB a b)) ∧ w' = w := by
  have SA := Lib.hid (fun w' => risSeq_any a w')
  have SB := Lib.hid (fun w' => risSeq_any b w')
  cases ha : wlB a with
  | false =>
    have hx : aheadB a b = false := by unfold aheadB; rw [ha]; rfl
    rw [ha] at SA
    go_enter Tryd.func7, Tryd.ntmps7
    go_wp2_with fail
    refine (SA.out _).mono ?_
    rintro e w1 ⟨rfl, rfl⟩
    go_wp2_with fail
    refine (SB.out _).mono ?_
    rintro e w1 ⟨rfl, rfl⟩
    go_wp2_with fail
    go_ret
    exact ⟨by first | rfl | (rw [hx]; rfl), by trivial⟩
  | true =>
    rw [ha] at SA
    cases hb : wlB b with
    | false =>
      have hx : aheadB a b = false := by unfold aheadB; rw [ha, hb]; rfl
      rw [hb] at SB
      go_enter Tryd.func7, Tryd.ntmps7
      go_wp2_with fail
      refine (SA.out _).mono ?_
      rintro e w1 ⟨rfl, rfl⟩
      go_wp2_with fail
      refine (SB.out _).mono ?_
      rintro e w1 ⟨rfl, rfl⟩
      go_wp2_with fail
      go_ret
      exact ⟨by first | rfl | (rw [hx]; rfl), by trivial⟩
    | true =>
      rw [hb] at SB
      have D := Lib.hid (fun w' => rdist_any a b w' (wlB_true ha) (wlB_true hb))
      have hx : aheadB a b = (decide (1 ≤ md (b - a)) && decide (md (b - a) < 32768)) := by unfold aheadB; rw [ha, hb]; rfl
      rw [hx]
      generalize md (b - a) = d at *
      by_cases h1 : 0 < d
      · by_cases h2 : d ≤ 32767
        · have hz : decide (d ≤ 32767) = true := by simpa using h2
          have hy : (decide (1 ≤ d) && decide (d < 32768)) = true := by simp; omega
          go_enter Tryd.func7, Tryd.ntmps7
          go_wp2_with fail
          refine (SA.out _).mono ?_
          rintro e w1 ⟨rfl, rfl⟩
          go_wp2_with fail
          refine (SB.out _).mono ?_
          rintro e w1 ⟨rfl, rfl⟩
          go_wp2_with fail
          refine (D.out _).mono ?_
          rintro e w1 ⟨rfl, rfl⟩
          go_wp2_with fail
          go_ret
          exact ⟨by first | rfl | (rw [hy]; rfl) | (show Ending.returned (.bool (decide (d ≤ 32767))) = _; rw [hz, hy]), by trivial⟩
        · have hz : decide (d ≤ 32767) = false := by simpa using h2
          have hy : (decide (1 ≤ d) && decide (d < 32768)) = false := by simp; omega
          go_enter Tryd.func7, Tryd.ntmps7
          go_wp2_with fail
          refine (SA.out _).mono ?_
          rintro e w1 ⟨rfl, rfl⟩
          go_wp2_with fail
          refine (SB.out _).mono ?_
          rintro e w1 ⟨rfl, rfl⟩
          go_wp2_with fail
          refine (D.out _).mono ?_
          rintro e w1 ⟨rfl, rfl⟩
          go_wp2_with fail
          go_ret
          exact ⟨by first | rfl | (rw [hy]; rfl) | (show Ending.returned (.bool (decide (d ≤ 32767))) = _; rw [hz, hy]), by trivial⟩
      · have hy : (decide (1 ≤ d) && decide (d < 32768)) = false := by simp; omega
        go_enter Tryd.func7, Tryd.ntmps7
        go_wp2_with fail
        refine (SA.out _).mono ?_
        rintro e w1 ⟨rfl, rfl⟩
        go_wp2_with fail
        refine (SB.out _).mono ?_
        rintro e w1 ⟨rfl, rfl⟩
        go_wp2_with fail
        refine (D.out _).mono ?_
        rintro e w1 ⟨rfl, rfl⟩
        go_wp2_with fail
        go_ret
        exact ⟨by first | rfl | (rw [hy]; rfl) | (show Ending.returned (.bool (decide (d ≤ 32767))) = _; rw [hz, hy]), by trivial⟩
set_option maxRecDepth 100000 in
theorem rstartOf_any (n : Int) (w : World) : Calls Tryd.prog 9 #[.int .i64 n] w fun e w' => e = .returned (.int .i64 (stN n)) ∧ w' = w := by
  by_cases h : n < 0
  · have hs : stN n = 0 := by unfold stN md; rw [show max n 0 = 0 by omega]; rfl
    go_enter Tryd.func9, Tryd.ntmps9
    go_wp2_with fail
    go_ret
    exact ⟨by first | rfl | (rw [hs]; rfl), rfl⟩
  · have hs : stN n = n % 65536 := by unfold stN md; rw [show max n 0 = n by omega]
    have hb := tmod_bounds n
    have w1 : IntKind.i64.wrap (n.tmod 65536) = n.tmod 65536 := IntWalk.i64_in _ (by omega)
    go_enter Tryd.func9, Tryd.ntmps9
    go_wp2_with fail
    go_ret
    exact ⟨by first | rfl | (rw [hs]; rfl), rfl⟩
end Go.Proofs.YtnjkopjbognpiaaDoor
