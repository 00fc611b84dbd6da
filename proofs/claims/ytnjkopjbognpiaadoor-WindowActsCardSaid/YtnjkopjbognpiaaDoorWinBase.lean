/- Contracts of package window's small functions. -/
import Derived.Test.YtnjkopjbognpiaaDoorWinPlain
import Derived.Handy
namespace Go.Proofs.YtnjkopjbognpiaaDoor
open Go.RowKit
set_option linter.unusedVariables false

set_option maxRecDepth 100000 in
set_option maxHeartbeats 1600000 in
theorem wmod_any (n : Int) (w : World) : Calls Tryd.prog 27 #[.int .i64 n] w fun e w' => e = .returned (.int .i64 (md n)) ∧ w = w' := by
  have hb := tmod_bounds n
  have w1 : IntKind.i64.wrap (n.tmod 65536) = n.tmod 65536 := IntWalk.i64_in _ (by omega)
  have w2 : IntKind.i64.wrap (n.tmod 65536 + 65536) = n.tmod 65536 + 65536 := IntWalk.i64_in _ (by omega)
  have hb2 := tmod_bounds (n.tmod 65536 + 65536)
  have w3 : IntKind.i64.wrap ((n.tmod 65536 + 65536).tmod 65536) = (n.tmod 65536 + 65536).tmod 65536 := IntWalk.i64_in _ (by omega)
  have HT := Lib.hid (md_tmod n)
  clear hb hb2
  go_enter Tryd.func27, Tryd.ntmps27
  go_wp2_with fail
  go_ret
  exact ⟨by rw [← HT.out]; rfl, rfl⟩
set_option maxRecDepth 100000 in
set_option maxHeartbeats 1600000 in
theorem wwell_any (n : Int) (w : World) : Calls Tryd.prog 26 #[.int .i64 n] w fun e w' => e = .returned (.bool (wlB n)) ∧ w = w' := by
  have hd : wlB n = (decide (0 ≤ n) && decide (n < 65536)) := rfl
  have HD := Lib.hid hd
  clear hd
  rcases (show n < 0 ∨ 0 ≤ n ∧ (n < 65536 ∨ 65536 ≤ n) by omega) with h | ⟨h, h2 | h2⟩
  all_goals
    go_enter Tryd.func26, Tryd.ntmps26
    go_wp2_with fail
    go_ret
    exact ⟨by rw [HD.out]; exact ret_bool (by simp; try omega), rfl⟩
set_option maxRecDepth 100000 in
set_option maxHeartbeats 1600000 in
theorem wstart_any (n : Int) (w : World) : Calls Tryd.prog 23 #[.int .i64 n] w fun e w' => e = .returned (.int .i64 (stN n)) ∧ w = w' := by
  have HM := Lib.hid (fun n w' => wmod_any n w')
  rcases (show n < 0 ∨ 0 ≤ n by omega) with h | h
  · have HS := Lib.hid (show stN n = md 0 by unfold stN; rw [show max n 0 = 0 by omega])
    have h' : ¬ 0 ≤ n := by omega
    have hm : max n 0 = 0 := by omega
    go_enter Tryd.func23, Tryd.ntmps23
    go_wp2_with fail
    all_goals first | omega | skip
    refine (HM.out _ _).mono ?_
    rintro e w1 ⟨rfl, rfl⟩
    go_wp2_with fail
    go_ret
    exact ⟨by rw [HS.out]; rfl, rfl⟩
  · have HS := Lib.hid (show stN n = md n by unfold stN; rw [show max n 0 = n by omega])
    have hm : max n 0 = n := by omega
    go_enter Tryd.func23, Tryd.ntmps23
    go_wp2_with fail
    all_goals first | omega | skip
    all_goals
      refine (HM.out _ _).mono ?_
      rintro e w1 ⟨rfl, rfl⟩
      go_wp2_with fail
      go_ret
      exact ⟨by rw [HS.out]; first | rfl | (rw [show n = 0 by omega]; rfl), rfl⟩
set_option maxRecDepth 100000 in
set_option maxHeartbeats 1600000 in
theorem wahead_any (a b : Int) (w : World) : Calls Tryd.prog 8 #[.int .i64 a, .int .i64 b] w fun e w' => e = .returned (.bool (aheadB a b)) ∧ w = w' := by
  have WA := Lib.hid (fun w' => wwell_any a w')
  have WB := Lib.hid (fun w' => wwell_any b w')
  have HD := Lib.hid (show aheadB a b = (wlB a && wlB b && (decide (1 ≤ md (b - a)) && decide (md (b - a) < 32768))) from rfl)
  have HM := Lib.hid (fun w' => wmod_any (b - a) w')
  cases ha : wlB a with
  | false =>
    rw [ha] at WA HD
    go_enter Tryd.func8, Tryd.ntmps8
    go_wp2_with fail
    refine (WA.out _).mono ?_
    rintro e w1 ⟨rfl, rfl⟩
    go_wp2_with fail
    go_ret
    exact ⟨by rw [HD.out]; rfl, rfl⟩
  | true =>
    rw [ha] at WA HD
    cases hb : wlB b with
    | false =>
      rw [hb] at WB HD
      go_enter Tryd.func8, Tryd.ntmps8
      go_wp2_with fail
      refine (WA.out _).mono ?_
      rintro e w1 ⟨rfl, rfl⟩
      go_wp2_with fail
      refine (WB.out _).mono ?_
      rintro e w1 ⟨rfl, rfl⟩
      go_wp2_with fail
      go_ret
      exact ⟨by rw [HD.out]; rfl, rfl⟩
    | true =>
      rw [hb] at WB HD
      have h1 := wlB_true ha
      have h2 := wlB_true hb
      have hw : IntKind.i64.wrap (b - a) = b - a := IntWalk.i64_in _ (by omega)
      generalize md (b - a) = d at *
      rcases (show d < 1 ∨ 1 ≤ d ∧ (d < 32768 ∨ 32768 ≤ d) by omega) with h | ⟨h, h' | h'⟩
      all_goals
        go_enter Tryd.func8, Tryd.ntmps8
        go_wp2_with fail
        refine (WA.out _).mono ?_
        rintro e w1 ⟨rfl, rfl⟩
        go_wp2_with fail
        refine (WB.out _).mono ?_
        rintro e w1 ⟨rfl, rfl⟩
        go_wp2_with fail
        refine (HM.out _).mono ?_
        rintro e w1 ⟨rfl, rfl⟩
        go_wp2_with fail
        go_ret
        exact ⟨by rw [HD.out]; exact ret_bool (by simp; try omega), rfl⟩
end Go.Proofs.YtnjkopjbognpiaaDoor
