/- Texts of one proof, one behind the other: Flow0. -/
import Derived.Test.YtdpoalbbcmkceaaGreatDoorRows
import Derived.Test.YtdpoalbbcmkceaaGreatDoorB06
import Derived.OneCell
import Derived.IntWalk
import Derived.Handy
/- Contracts of the package flow: New, Good, Bad, Wait. -/
namespace Go.Proofs.YtdpoalbbcmkceaaGreatDoor
open Go.RowKit

/-- a flow's four numbers lie in block b -/
def FlowAt (w : World) (b : Nat) (W L T G : Int) : Prop := w.heap[b]? = some (.cells #[.int .i64 W, .int .i64 L, .int .i64 T, .int .i64 G] 100 (0, 0))
theorem FlowAt.lt {w : World} {b : Nat} {W L T G : Int} (h : FlowAt w b W L T G) : b < w.heap.size := lt_of_block h
theorem FlowAt.c0 {w : World} {b : Nat} {W L T G : Int} (h : FlowAt w b W L T G) : w.cell? ⟨b, 0, none⟩ = some (.int .i64 W) := by unfold FlowAt at h; simp [World.cell?, h]
theorem FlowAt.c1 {w : World} {b : Nat} {W L T G : Int} (h : FlowAt w b W L T G) : w.cell? ⟨b, 1, none⟩ = some (.int .i64 L) := by unfold FlowAt at h; simp [World.cell?, h]
theorem FlowAt.c2 {w : World} {b : Nat} {W L T G : Int} (h : FlowAt w b W L T G) : w.cell? ⟨b, 2, none⟩ = some (.int .i64 T) := by unfold FlowAt at h; simp [World.cell?, h]
theorem FlowAt.c3 {w : World} {b : Nat} {W L T G : Int} (h : FlowAt w b W L T G) : w.cell? ⟨b, 3, none⟩ = some (.int .i64 G) := by unfold FlowAt at h; simp [World.cell?, h]
theorem FlowAt.fz {w : World} {b : Nat} {W L T G : Int} (h : FlowAt w b W L T G) (k : Nat) : w.frozen? ⟨b, k, none⟩ = false := by unfold FlowAt at h; simp [World.frozen?, h]
theorem FlowAt.s0 {w : World} {b : Nat} {W L T G : Int} (h : FlowAt w b W L T G) (x : Int) : FlowAt (w.setCell ⟨b, 0, none⟩ (.int .i64 x)) b x L T G := set_at h
theorem FlowAt.s1 {w : World} {b : Nat} {W L T G : Int} (h : FlowAt w b W L T G) (x : Int) : FlowAt (w.setCell ⟨b, 1, none⟩ (.int .i64 x)) b W x T G := set_at h
theorem FlowAt.s2 {w : World} {b : Nat} {W L T G : Int} (h : FlowAt w b W L T G) (x : Int) : FlowAt (w.setCell ⟨b, 2, none⟩ (.int .i64 x)) b W L x G := set_at h
theorem FlowAt.s3 {w : World} {b : Nat} {W L T G : Int} (h : FlowAt w b W L T G) (x : Int) : FlowAt (w.setCell ⟨b, 3, none⟩ (.int .i64 x)) b W L T x := set_at h
theorem FlowAt.drewN {w : World} {b : Nat} {W L T G : Int} (h : FlowAt w b W L T G) (n : Nat) : FlowAt (w.drewN n) b W L T G := h


/-- within their bounds -/
def FlowOk (W L T G : Int) : Prop := 1 ≤ W ∧ W ≤ 32 ∧ 1 ≤ L ∧ L ≤ 32 ∧ 2 ≤ T ∧ T ≤ 64 ∧ 0 ≤ G ∧ G ≤ 32
def goodW (W L G : Int) : Int := if L ≤ W ∧ G + 1 < W then W else if W + 1 ≤ 32 then W + 1 else 32
def goodG (W L G : Int) : Int := if L ≤ W ∧ G + 1 < W then G + 1 else 0
def badL (W : Int) : Int := if 1 ≤ W / 2 then W / 2 else 1
def badT (T : Int) : Int := if 2 * T ≤ 64 then 2 * T else 64
theorem good_ok {W L T G : Int} (h : FlowOk W L T G) : FlowOk (goodW W L G) L 2 (goodG W L G) := by
  obtain ⟨h1, h2, h3, h4, h5, h6, h7, h8⟩ := h
  unfold goodW goodG
  refine ⟨?_, ?_, h3, h4, by omega, by omega, ?_, ?_⟩ <;> (repeat' split) <;> omega
theorem bad_ok {W L T G : Int} (h : FlowOk W L T G) : FlowOk 1 (badL W) (badT T) 0 := by
  obtain ⟨h1, h2, h3, h4, h5, h6, h7, h8⟩ := h
  unfold badL badT
  refine ⟨by omega, by omega, ?_, ?_, ?_, ?_, by omega, by omega⟩ <;> (repeat' split) <;> omega

set_option maxRecDepth 100000 in
theorem wait_is (b : Nat) (W L T G : Int) (w : World) (h : FlowAt w b W L T G) :
    Calls Tryz.prog 37 #[.pointer (some ⟨b, 0, none⟩)] w fun e w' => e = .returned (.int .i64 T) ∧ w' = w := by
  have c2 := h.c2
  go_enter Tryz.func37, Tryz.ntmps37
  go_wp2_with fail
  go_ret
  exact ⟨rfl, rfl⟩
set_option maxRecDepth 100000 in
theorem new_is (w : World) :
    Calls Tryz.prog 35 #[] w fun e w' => e = .returned (.pointer (some ⟨w.heap.size, 0, none⟩)) ∧ FlowAt w' w.heap.size 1 32 2 0 ∧ Below w.heap.size w w' := by
  go_enter Tryz.func35, Tryz.ntmps35
  go_wp2_with fail
  go_ret
  exact ⟨rfl, heap_alloc_new _ _, (Below.refl _ w).alloc (Nat.le_refl _) _⟩

set_option maxRecDepth 100000 in
set_option maxHeartbeats 1600000 in
theorem good_is (b : Nat) (W L T G : Int) (w : World) (h : FlowAt w b W L T G) (ok : FlowOk W L T G) :
    Calls Tryz.prog 70 #[.pointer (some ⟨b, 0, none⟩)] w fun e w' => e = .returned (.tuple #[]) ∧ FlowAt w' b (goodW W L G) L 2 (goodG W L G) ∧ w.grownBy w' (some b) := by
  have c2 := h.c2
  have f2 := h.fz 2
  obtain ⟨o1, o2, o3, o4, o5, o6, o7, o8⟩ := ok
  have h1 := h.s2 2
  have g1 := grownBy_set w b 2 (.int .i64 2)
  have fin : ∀ w', FlowAt w' b (if L ≤ W ∧ G + 1 < W then W else if W + 1 ≤ 32 then W + 1 else 32) L 2 (if L ≤ W ∧ G + 1 < W then G + 1 else 0) → FlowAt w' b (goodW W L G) L 2 (goodG W L G) := fun _ h => h
  have FIN := Lib.hid fin
  clear fin
  go_enter Tryz.func70, Tryz.ntmps70
  go_wp2_with fail
  generalize w.setCell ⟨b, 2, none⟩ (.int .i64 2) = w1 at h1 g1 ⊢
  have d0 := h1.c0
  have d1 := h1.c1
  have d3 := h1.c3
  have e0 := h1.fz 0
  have e3 := h1.fz 3
  have w1' : IntKind.i64.wrap (G + 1) = G + 1 := IntWalk.i64_in _ (by omega)
  have w2' : IntKind.i64.wrap (W + 1) = W + 1 := IntWalk.i64_in _ (by omega)
  have tail : ∀ (w3 : World) (G0 x : Int), FlowAt w3 b W L 2 G0 → w.grownBy w3 (some b) → (L ≤ W ∧ G + 1 < W → False) → x = (if W + 1 ≤ 32 then W + 1 else 32) →
      FlowAt ((w3.setCell ⟨b, 3, none⟩ (.int .i64 0)).setCell ⟨b, 0, none⟩ (.int .i64 x)) b (goodW W L G) L 2 (goodG W L G) ∧
      w.grownBy ((w3.setCell ⟨b, 3, none⟩ (.int .i64 0)).setCell ⟨b, 0, none⟩ (.int .i64 x)) (some b) := by
    intro w3 G0 x f g hno hx
    refine ⟨FIN.out _ ?_, grownBy_trans (grownBy_trans g (grownBy_set _ _ _ _)) (grownBy_set _ _ _ _)⟩
    rw [if_neg (fun h => hno h), if_neg (fun h => hno h), ← hx]
    exact (f.s3 0).s0 _
  have TAIL := Lib.hid tail
  clear tail
  by_cases t1 : L ≤ W
  · go_quiet (fail)
    go_wp2_with fail
    have h3 := (h1.drewN nq).s3 (G + 1)
    have g3 := grownBy_trans (grownBy_drewN g1 nq) (grownBy_set (w1.drewN nq) b 3 (.int .i64 (G + 1)))
    generalize (w1.drewN nq).setCell ⟨b, 3, none⟩ (.int .i64 (G + 1)) = w2 at h3 g3 ⊢
    clear d0 d1 d3 e0 e3 h1 g1
    have d0 := h3.c0
    have d3 := h3.c3
    have e0 := h3.fz 0
    have e3 := h3.fz 3
    by_cases t2 : G + 1 < W
    · go_quiet (fail)
      go_wp2_with fail
      go_returns
      refine ⟨rfl, FIN.out _ ?_, grownBy_drewN g3 _⟩
      rw [if_pos ⟨t1, t2⟩, if_pos ⟨t1, t2⟩]
      exact h3.drewN _
    · go_quiet (fail)
      go_wp2_with fail
      all_goals
        go_returns
        exact ⟨rfl, TAIL.out _ _ _ (h3.drewN _) (grownBy_drewN g3 _) (fun h => by omega) (by first | rw [if_pos (by omega)] | rw [if_neg (by omega)])⟩
  · go_quiet (fail)
    go_wp2_with fail
    all_goals
      go_returns
      exact ⟨rfl, TAIL.out _ _ _ (h1.drewN _) (grownBy_drewN g1 _) (fun h => by omega) (by first | rw [if_pos (by omega)] | rw [if_neg (by omega)])⟩

set_option maxRecDepth 100000 in
set_option maxHeartbeats 1600000 in
theorem bad_is (b : Nat) (W L T G : Int) (w : World) (h : FlowAt w b W L T G) (ok : FlowOk W L T G) :
    Calls Tryz.prog 38 #[.pointer (some ⟨b, 0, none⟩)] w fun e w' => e = .returned (.tuple #[]) ∧ FlowAt w' b 1 (badL W) (badT T) 0 ∧ w.grownBy w' (some b) := by
  have c0 := h.c0
  have c1 := h.c1
  have c2 := h.c2
  have c3 := h.c3
  have f0 := h.fz 0
  have f1 := h.fz 1
  have f2 := h.fz 2
  have f3 := h.fz 3
  obtain ⟨o1, o2, o3, o4, o5, o6, o7, o8⟩ := ok
  have w1' : IntKind.i64.wrap (2 * T) = 2 * T := IntWalk.i64_in _ (by omega)
  have w2' : IntKind.i64.wrap (W.tdiv 2) = W / 2 := by rw [Int.tdiv_eq_ediv_of_nonneg (by omega)]; exact IntWalk.i64_in _ (by omega)
  have fin : ∀ x y, x = badL W → y = badT T → FlowAt ((((w.setCell ⟨b, 1, none⟩ (.int .i64 x)).setCell ⟨b, 0, none⟩ (.int .i64 1)).setCell ⟨b, 3, none⟩ (.int .i64 0)).setCell ⟨b, 2, none⟩ (.int .i64 y)) b 1 (badL W) (badT T) 0 ∧
      w.grownBy ((((w.setCell ⟨b, 1, none⟩ (.int .i64 x)).setCell ⟨b, 0, none⟩ (.int .i64 1)).setCell ⟨b, 3, none⟩ (.int .i64 0)).setCell ⟨b, 2, none⟩ (.int .i64 y)) (some b) := by
    intro x y hx hy
    rw [← hx, ← hy]
    exact ⟨((((h.s1 x).s0 1).s3 0).s2 y), grownBy_trans (grownBy_trans (grownBy_trans (grownBy_set _ _ _ _) (grownBy_set _ _ _ _)) (grownBy_set _ _ _ _)) (grownBy_set _ _ _ _)⟩
  have FIN := Lib.hid fin
  clear fin
  go_enter Tryz.func38, Tryz.ntmps38
  go_wp2_with fail
  all_goals
    go_returns
    exact ⟨rfl, FIN.out _ _ (by unfold badL; first | rw [if_pos (by omega)] | (rw [if_neg (by omega)]; omega) | (split <;> omega)) (by unfold badT; first | rw [if_pos (by omega)] | (rw [if_neg (by omega)]; omega) | (split <;> omega))⟩
end Go.Proofs.YtdpoalbbcmkceaaGreatDoor
