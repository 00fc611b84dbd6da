/- FlowBounds: the window and the wait stay within their bounds. -/
import Derived.Test.YtdbcplecjiknhaaFlow
import Derived.Test.YtdbcplecjiknhaaArgs
namespace Go.Proofs.Ytdbcplecjiknhaa
open Go.RowKit

set_option maxRecDepth 100000 in
set_option maxHeartbeats 1600000 in
theorem flowed_ok (w : World) : Calls Try.prog 5 #[] w fun e w' => e = .returned (.bool true) ∧ Below w.heap.size w w' := by
  have o0 : FlowOk 1 32 2 0 := by unfold FlowOk; omega
  have o1 : FlowOk 2 32 2 0 := by unfold FlowOk; omega
  have o2 : FlowOk 3 32 2 0 := by unfold FlowOk; omega
  go_enter Try.func5, Try.ntmps5
  go_wp2_with fail
  refine (new_is w).mono ?_
  rintro e w1 ⟨rfl, F1, b1⟩
  go_wp2_with fail
  refine (good_is _ _ _ _ _ _ F1 o0).mono ?_
  rintro e w2 ⟨rfl, F2, g2⟩
  have F2' : FlowAt w2 w.heap.size 2 32 2 0 := F2
  have b2 := b1.grown g2 b1.size (fun k hk => by cases hk; exact Nat.le_refl _)
  clear F1 F2 g2 b1
  go_wp2_with fail
  refine (good_is _ _ _ _ _ _ F2' o1).mono ?_
  rintro e w3 ⟨rfl, F3, g3⟩
  have F3' : FlowAt w3 w.heap.size 3 32 2 0 := F3
  have b3 := b2.grown g3 b2.size (fun k hk => by cases hk; exact Nat.le_refl _)
  clear F3 F2' g3 b2
  go_wp2_with (go_at_call 7; refine (window_is _ _ _ _ _ _ F3').mono ?_; rintro e w4 ⟨rfl, rfl⟩)
  refine (bad_is _ _ _ _ _ _ F3' o2).mono ?_
  rintro e w5 ⟨rfl, F5, g5⟩
  have F5' : FlowAt w5 w.heap.size 1 1 4 0 := F5
  have b5 := b3.grown g5 b3.size (fun k hk => by cases hk; exact Nat.le_refl _)
  clear F5 F3' g5 b3
  go_wp2_with (first | (go_at_call 7; refine (window_is _ _ _ _ _ _ F5').mono ?_; rintro e w6 ⟨rfl, rfl⟩) | (go_at_call 8; refine (wait_is _ _ _ _ _ _ F5').mono ?_; rintro e w6 ⟨rfl, rfl⟩) | (go_at_call 11; refine (limit_is _ _ _ _ _ _ F5').mono ?_; rintro e w6 ⟨rfl, rfl⟩))
  go_ret
  exact ⟨rfl, b5⟩

set_option maxRecDepth 100000 in
set_option maxHeartbeats 3200000 in
theorem flowBounds_walk (s0 : Option Addr) (n0 c0 : Nat) (a0 : List Bool) (w : World) (hs : SliceIs w (.slice s0 n0 c0) 1 (a0.map .bool)) :
    Calls Try.prog 3 #[.slice s0 n0 c0] w fun e w' => e = .returned (.bool true) ∧ Below w.heap.size w w' := by
  have HS := Lib.hid hs
  clear hs
  by_cases hn : n0 ≤ 400
  · have hnI : ¬ (400 : Int) < n0 := by omega
    go_enter Try.func3, Try.ntmps3
    go_wp2_with (go_at_call 5; refine (flowed_ok w).mono ?_; rintro e w0 ⟨rfl, b0⟩)
    refine (new_is w0).mono ?_
    rintro e w1 ⟨rfl, F1, b1⟩
    have b01 := below_trans' b0 b1
    have hb : w.heap.size ≤ w0.heap.size := b0.size
    generalize w0.heap.size = b at F1 hb ⊢
    clear b0 b1
    go_wp2_with fail
    go_loopw [5] (fun i wr => ∃ (k : Nat) (W L T G : Int), i = .int .i64 k ∧ k ≤ n0 ∧ FlowAt wr b W L T G ∧ FlowOk W L T G ∧ Below w.heap.size w wr) (fun i _ => n0 - (intOf i).toNat)
    case atStart => exact ⟨0, 1, 32, 2, 0, rfl, by omega, F1, by unfold FlowOk; omega, b01⟩
    case round =>
      clear F1 b01
      obtain ⟨k, W, L, T, G, rfl, hk, F, ok, bel⟩ := hrel
      by_cases hlt : k < n0
      · have hltI : (k : Int) < n0 := by omega
        obtain ⟨a, hl, hm, rfl, hlen, hcell⟩ : ∃ a, n0 ≤ c0 ∧ c0 ≤ maxLen ∧ s0 = some a ∧ a0.length = n0 ∧ ∀ i u, (a0.map Value.bool)[i]? = some u → wr.cell? (a.add i) = some u := by
          rcases HS.out.below bel with ⟨h1, h2⟩ | ⟨a, len, cap, h1, h2, h3, h4, h5⟩
          · cases h1; omega
          · cases h1; exact ⟨a, h2, h3, rfl, by simpa using h4, h5⟩
        have hc := hcell k (.bool a0[k]) (by simp)
        generalize a0[k] = g at hc
        clear hcell
        obtain ⟨q1, q2, q3, q4, q5, q6, q7, q8⟩ := id ok
        cases g
        · go_wp2_with (first | (go_at_call 7; refine (window_is _ _ _ _ _ _ F).mono ?_; rintro e w6 ⟨rfl, rfl⟩) | (go_at_call 8; refine (wait_is _ _ _ _ _ _ F).mono ?_; rintro e w6 ⟨rfl, rfl⟩) | (go_at_call 11; refine (limit_is _ _ _ _ _ _ F).mono ?_; rintro e w6 ⟨rfl, rfl⟩))
          refine (bad_is _ _ _ _ _ _ F ok).mono ?_
          rintro e w7 ⟨rfl, F7, g7⟩
          have b7 := bel.grown g7 bel.size (fun k hk => by cases hk; exact hb)
          have ok7 := bad_ok ok
          have y1 : ¬ (2 * badL W > W ∧ badL W > 1) := by unfold badL; split <;> omega
          have z1 : T ≤ badT T ∧ badT T ≤ 2 * T := by unfold badT; split <;> omega
          generalize badL W = y at F7 ok7 y1
          generalize badT T = z at F7 ok7 z1
          obtain ⟨z1, z2⟩ := z1
          clear F bel g7 ok
          obtain ⟨r1, r2, r3, r4, r5, r6, r7, r8⟩ := id ok7
          have w1' : IntKind.i64.wrap (2 * y) = 2 * y := IntWalk.i64_in _ (by omega)
          have w2' : IntKind.i64.wrap (2 * T) = 2 * T := IntWalk.i64_in _ (by omega)
          have y2 : 2 * y ≤ W ∨ W < 2 * y ∧ y ≤ 1 := by omega
          clear y1
          rcases y2 with y2 | ⟨y2, y3⟩
          all_goals
            go_wp2_with (first | (go_at_call 7; refine (window_is _ _ _ _ _ _ F7).mono ?_; rintro e w6 ⟨rfl, rfl⟩) | (go_at_call 8; refine (wait_is _ _ _ _ _ _ F7).mono ?_; rintro e w6 ⟨rfl, rfl⟩) | (go_at_call 11; refine (limit_is _ _ _ _ _ _ F7).mono ?_; rintro e w6 ⟨rfl, rfl⟩))
            go_roundw
            case rel => exact ⟨k + 1, 1, y, z, 0, by go_num, by omega, F7, ok7, b7⟩
            case measure => simp [intOf]; omega
        · go_wp2_with (first | (go_at_call 7; refine (window_is _ _ _ _ _ _ F).mono ?_; rintro e w6 ⟨rfl, rfl⟩) | (go_at_call 8; refine (wait_is _ _ _ _ _ _ F).mono ?_; rintro e w6 ⟨rfl, rfl⟩) | (go_at_call 11; refine (limit_is _ _ _ _ _ _ F).mono ?_; rintro e w6 ⟨rfl, rfl⟩))
          refine (good_is _ _ _ _ _ _ F ok).mono ?_
          rintro e w7 ⟨rfl, F7, g7⟩
          have b7 := bel.grown g7 bel.size (fun k hk => by cases hk; exact hb)
          have ok7 := good_ok ok
          have x1 : W ≤ goodW W L G ∧ goodW W L G ≤ W + 1 := by unfold goodW; (repeat' split) <;> omega
          generalize goodW W L G = x at F7 ok7 x1
          generalize goodG W L G = z at F7 ok7
          obtain ⟨x1, x2⟩ := x1
          clear F bel g7 ok
          obtain ⟨r1, r2, r3, r4, r5, r6, r7, r8⟩ := id ok7
          have w1' : IntKind.i64.wrap (W + 1) = W + 1 := IntWalk.i64_in _ (by omega)
          go_wp2_with (first | (go_at_call 7; refine (window_is _ _ _ _ _ _ F7).mono ?_; rintro e w6 ⟨rfl, rfl⟩) | (go_at_call 8; refine (wait_is _ _ _ _ _ _ F7).mono ?_; rintro e w6 ⟨rfl, rfl⟩) | (go_at_call 11; refine (limit_is _ _ _ _ _ _ F7).mono ?_; rintro e w6 ⟨rfl, rfl⟩))
          go_roundw
          case rel => exact ⟨k + 1, x, L, 2, z, by go_num, by omega, F7, ok7, b7⟩
          case measure => simp [intOf]; omega
      · have hltI : ¬ (k : Int) < n0 := by omega
        go_wp2_with fail
        go_ret
        exact ⟨rfl, bel⟩
  · have hnI : (400 : Int) < n0 := by omega
    go_enter Try.func3, Try.ntmps3
    go_wp2_with (go_at_call 5; refine (flowed_ok w).mono ?_; rintro e w0 ⟨rfl, b0⟩)
    go_ret
    exact ⟨rfl, b0⟩
end Go.Proofs.Ytdbcplecjiknhaa
