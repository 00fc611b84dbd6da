/- Texts of one proof, one behind the other: ArgOps, DeltaLaws, Flow0, SameOps, SignSizes. -/
import Derived.Test.YtppkeophochgiaaGreatDoorB04
import Derived.Test.YtppkeophochgiaaGreatDoorB16
import Derived.Test.YtppkeophochgiaaGreatDoorB21
import Derived.Test.YtppkeophochgiaaGreatDoorB20
import Derived.Test.YtppkeophochgiaaGreatDoorRows
import Derived.OneCell
import Derived.IntWalk
import Derived.Handy
import Derived.Test.YtppkeophochgiaaGreatDoorB19
import Derived.Test.YtppkeophochgiaaGreatDoorB18
import Derived.Test.YtppkeophochgiaaGreatDoorB03
/- What a walk is told of a slice of ops that came in. -/
namespace Go.Proofs.YtppkeophochgiaaGreatDoor
open Go.RowKit Go.ChangeShapes Go.WideShapes Go.Deep

end Go.Proofs.YtppkeophochgiaaGreatDoor
/- Plain laws of deltas: what data costs; blocks that are there twice. -/
namespace Go.Proofs.YtppkeophochgiaaGreatDoor
open Go.RowKit
set_option linter.unusedVariables false

theorem costN_copy (out : List POp) (k : Int) : costN (addCopy out k) = costN out := by
  rcases split_last out with rfl | ⟨m, o, rfl⟩
  · rw [addCopy_nil, costN_append, costN_one]; simp
  · by_cases hc : o.kind = kCopy ∧ o.a + o.n = k
    · rw [addCopy_more m o k hc, costN_append, costN_append, costN_one, costN_one]
    · rw [addCopy_new m o k hc, costN_append, costN_one]; simp
theorem costN_data (out : List POp) (d : List UInt8) : costN (addData out d) = costN out + d.length := by
  rcases split_last out with rfl | ⟨m, o, rfl⟩
  · rw [addData_nil, costN_append, costN_one]
  · by_cases hc : o.kind = kData
    · rw [addData_more m o d hc, costN_append, costN_append, costN_one, costN_one]; simp; omega
    · rw [addData_new m o d hc, costN_append, costN_one]
theorem mkA_zero (l : List Blk) (size : Nat) (s : List UInt8) (out : List POp) : mkA l size 0 s out = out := by unfold mkA; rfl
theorem cost_mkA (l : List Blk) (size : Nat) : ∀ (f : Nat) (s : List UInt8) (out : List POp), costN (mkA l size f s out) ≤ costN out + s.length
  | 0, s, out => by rw [mkA_zero]; omega
  | f + 1, s, out => by
    by_cases hs : s = []
    · subst hs; rw [mkA_end]; omega
    · by_cases h : 0 ≤ findI l (blk (s.take size))
      · rw [mkA_copy hs h]
        have := cost_mkA l size f (s.drop size) (addCopy out (findI l (blk (s.take size))))
        rw [costN_copy, List.length_drop] at this
        omega
      · rw [mkA_data hs h]
        have := cost_mkA l size f (s.drop 1) (addData out (s.take 1))
        rw [costN_data] at this
        have hl : 0 < s.length := List.length_pos_iff.2 hs
        rw [List.length_take, List.length_drop] at this; omega
theorem mkOps_cost (l : List Blk) (size : Nat) (s : List UInt8) : costN (mkOps l size s) ≤ s.length := by
  have := cost_mkA l size s.length s []
  unfold mkOps
  rw [costN_nil] at this; omega
theorem mkA_ok (l : List Blk) (size : Nat) (hz : 1 ≤ size) (hl : l.length ≤ 4000) : ∀ (f : Nat) (s : List UInt8) (out : List POp) (i : Nat), OkOut out i → OkOut (mkA l size f s out) (i + s.length)
  | 0, s, out, i, h => by rw [mkA_zero]; exact h.mono (by omega)
  | f + 1, s, out, i, h => by
    by_cases hs : s = []
    · subst hs; rw [mkA_end]; exact h.mono (by omega)
    · have hp : 0 < s.length := List.length_pos_iff.2 hs
      by_cases hf : 0 ≤ findI l (blk (s.take size))
      · rw [mkA_copy hs hf]
        have hb := findI_bd l (blk (s.take size))
        exact (mkA_ok l size hz hl f (s.drop size) _ (i + 1) (h.copy ⟨hf, by omega⟩)).mono (by simp; omega)
      · rw [mkA_data hs hf]
        exact (mkA_ok l size hz hl f (s.drop 1) _ (i + 1) (h.data (by simp; omega))).mono (by simp; omega)
theorem mkOps_ok (l : List Blk) (size : Nat) (s : List UInt8) (hz : 1 ≤ size) (hl : l.length ≤ 4000) : OkOut (mkOps l size s) s.length := by
  have := mkA_ok l size hz hl s.length s [] 0 (OkOut.nil 0)
  unfold mkOps; rw [Nat.zero_add] at this; exact this

theorem findB_none (l : List Blk) (x : Blk) (i : Nat) (h : ∀ b ∈ l, b ≠ x) : findB l x i = -1 := by
  induction l generalizing i with
  | nil => have := findB_end ([] : List Blk) x i (by simp); simpa using this
  | cons b l ih => rw [findB_cons, if_neg (h b (by simp))]; exact ih (i + 1) (fun c hc => h c (by simp [hc]))
end Go.Proofs.YtppkeophochgiaaGreatDoor
/- Contracts of the package flow: New, Good, Bad, Wait. -/
namespace Go.Proofs.YtppkeophochgiaaGreatDoor
open Go.RowKit

/-- a flow's four numbers lie in block b -/
def FlowAt (w : World) (b : Nat) (W L T G : Int) : Prop := w.heap[b]? = some (.cells #[.int .i64 W, .int .i64 L, .int .i64 T, .int .i64 G] 298 (0, 0))
theorem FlowAt.lt {w : World} {b : Nat} {W L T G : Int} (h : FlowAt w b W L T G) : b < w.heap.size := lt_of_block h
theorem FlowAt.c0 {w : World} {b : Nat} {W L T G : Int} (h : FlowAt w b W L T G) : w.cell? ⟨b, 0, none⟩ = some (.int .i64 W) := by unfold FlowAt at h; simp [World.cell?, h]
theorem FlowAt.c1 {w : World} {b : Nat} {W L T G : Int} (h : FlowAt w b W L T G) : w.cell? ⟨b, 1, none⟩ = some (.int .i64 L) := by unfold FlowAt at h; simp [World.cell?, h]
theorem FlowAt.c2 {w : World} {b : Nat} {W L T G : Int} (h : FlowAt w b W L T G) : w.cell? ⟨b, 2, none⟩ = some (.int .i64 T) := by unfold FlowAt at h; simp [World.cell?, h]
theorem FlowAt.c3 {w : World} {b : Nat} {W L T G : Int} (h : FlowAt w b W L T G) : w.cell? ⟨b, 3, none⟩ = some (.int .i64 G) := by unfold FlowAt at h; simp [World.cell?, h]
theorem FlowAt.fz {w : World} {b : Nat} {W L T G : Int} (h : FlowAt w b W L T G) (k : Nat) : w.frozen? ⟨b, k, none⟩ = false := by unfold FlowAt at h; simp [World.frozen?, h]
theorem FlowAt.s0 {w : World} {b : Nat} {W L T G : Int} (h : FlowAt w b W L T G) (x : Int) : FlowAt (w.setCell ⟨b, 0, none⟩ (.int .i64 x)) b x L T G := set_at h
theorem FlowAt.s1 {w : World} {b : Nat} {W L T G : Int} (h : FlowAt w b W L T G) (x : Int) : FlowAt (w.setCell ⟨b, 1, none⟩ (.int .i64 x)) b W x T G := set_at h
theorem FlowAt.s2 {w : World} {b : Nat} {W L T G : Int} (h : FlowAt w b W L T G) (x : Int) : FlowAt (w.setCell ⟨b, 2, none⟩ (.int .i64 x)) b W L x G := set_at h
theorem FlowAt.s3 {w : World} {b : Nat} {W L T G : Int} (h : FlowAt w b W L T G) (x : Int) : FlowAt (w.setCell ⟨b, 3, none⟩ (.int .i64 x)) b W L T x := set_at h
theorem FlowAt.drewN {w : World} {b : Nat} {W L T G : Int} (h : FlowAt w b W L T G) (n : Nat) : FlowAt (w.drewN n) b W L T G := h


/-- within their bounds -/
def FlowOk (W L T G : Int) : Prop := 1 ≤ W ∧ W ≤ 32 ∧ 1 ≤ L ∧ L ≤ 32 ∧ 2 ≤ T ∧ T ≤ 64 ∧ 0 ≤ G ∧ G ≤ 32
def goodW (W L G : Int) : Int := if L ≤ W ∧ G + 1 < W then W else if W + 1 ≤ 32 then W + 1 else 32
def goodG (W L G : Int) : Int := if L ≤ W ∧ G + 1 < W then G + 1 else 0
def badL (W : Int) : Int := if 1 ≤ W / 2 then W / 2 else 1
def badT (T : Int) : Int := if 2 * T ≤ 64 then 2 * T else 64
theorem good_ok {W L T G : Int} (h : FlowOk W L T G) : FlowOk (goodW W L G) L 2 (goodG W L G) := by
  obtain ⟨h1, h2, h3, h4, h5, h6, h7, h8⟩ := h
  unfold goodW goodG
  refine ⟨?_, ?_, h3, h4, by omega, by omega, ?_, ?_⟩ <;> (repeat' split) <;> omega
theorem bad_ok {W L T G : Int} (h : FlowOk W L T G) : FlowOk 1 (badL W) (badT T) 0 := by
  obtain ⟨h1, h2, h3, h4, h5, h6, h7, h8⟩ := h
  unfold badL badT
  refine ⟨by omega, by omega, ?_, ?_, ?_, ?_, by omega, by omega⟩ <;> (repeat' split) <;> omega

set_option maxRecDepth 100000 in
theorem wait_is (b : Nat) (W L T G : Int) (w : World) (h : FlowAt w b W L T G) :
    Calls Tryz.prog 190 #[.pointer (some ⟨b, 0, none⟩)] w fun e w' => e = .returned (.int .i64 T) ∧ w' = w := by
  have c2 := h.c2
  go_enter Tryz.func190, Tryz.ntmps190
  go_wp2_with fail
  go_ret
  exact ⟨rfl, rfl⟩
set_option maxRecDepth 100000 in
theorem new_is (w : World) :
    Calls Tryz.prog 188 #[] w fun e w' => e = .returned (.pointer (some ⟨w.heap.size, 0, none⟩)) ∧ FlowAt w' w.heap.size 1 32 2 0 ∧ Below w.heap.size w w' := by
  go_enter Tryz.func188, Tryz.ntmps188
  go_wp2_with fail
  go_ret
  exact ⟨rfl, heap_alloc_new _ _, (Below.refl _ w).alloc (Nat.le_refl _) _⟩

set_option maxRecDepth 100000 in
set_option maxHeartbeats 1600000 in
theorem good_is (b : Nat) (W L T G : Int) (w : World) (h : FlowAt w b W L T G) (ok : FlowOk W L T G) :
    Calls Tryz.prog 228 #[.pointer (some ⟨b, 0, none⟩)] w fun e w' => e = .returned (.tuple #[]) ∧ FlowAt w' b (goodW W L G) L 2 (goodG W L G) ∧ w.grownBy w' (some b) := by
  have c2 := h.c2
  have f2 := h.fz 2
  obtain ⟨o1, o2, o3, o4, o5, o6, o7, o8⟩ := ok
  have h1 := h.s2 2
  have g1 := grownBy_set w b 2 (.int .i64 2)
  have fin : ∀ w', FlowAt w' b (if L ≤ W ∧ G + 1 < W then W else if W + 1 ≤ 32 then W + 1 else 32) L 2 (if L ≤ W ∧ G + 1 < W then G + 1 else 0) → FlowAt w' b (goodW W L G) L 2 (goodG W L G) := fun _ h => h
  have FIN := Lib.hid fin
  clear fin
  go_enter Tryz.func228, Tryz.ntmps228
  go_wp2_with fail
  generalize w.setCell ⟨b, 2, none⟩ (.int .i64 2) = w1 at h1 g1 ⊢
  have d0 := h1.c0
  have d1 := h1.c1
  have d3 := h1.c3
  have e0 := h1.fz 0
  have e3 := h1.fz 3
  have w1' : IntKind.i64.wrap (G + 1) = G + 1 := IntWalk.i64_in _ (by omega)
  have w2' : IntKind.i64.wrap (W + 1) = W + 1 := IntWalk.i64_in _ (by omega)
  have tail : ∀ (w3 : World) (G0 x : Int), FlowAt w3 b W L 2 G0 → w.grownBy w3 (some b) → (L ≤ W ∧ G + 1 < W → False) → x = (if W + 1 ≤ 32 then W + 1 else 32) →
      FlowAt ((w3.setCell ⟨b, 3, none⟩ (.int .i64 0)).setCell ⟨b, 0, none⟩ (.int .i64 x)) b (goodW W L G) L 2 (goodG W L G) ∧
      w.grownBy ((w3.setCell ⟨b, 3, none⟩ (.int .i64 0)).setCell ⟨b, 0, none⟩ (.int .i64 x)) (some b) := by
    intro w3 G0 x f g hno hx
    refine ⟨FIN.out _ ?_, grownBy_trans (grownBy_trans g (grownBy_set _ _ _ _)) (grownBy_set _ _ _ _)⟩
    rw [if_neg (fun h => hno h), if_neg (fun h => hno h), ← hx]
    exact (f.s3 0).s0 _
  have TAIL := Lib.hid tail
  clear tail
  by_cases t1 : L ≤ W
  · go_quiet (fail)
    go_wp2_with fail
    have h3 := (h1.drewN nq).s3 (G + 1)
    have g3 := grownBy_trans (grownBy_drewN g1 nq) (grownBy_set (w1.drewN nq) b 3 (.int .i64 (G + 1)))
    generalize (w1.drewN nq).setCell ⟨b, 3, none⟩ (.int .i64 (G + 1)) = w2 at h3 g3 ⊢
    clear d0 d1 d3 e0 e3 h1 g1
    have d0 := h3.c0
    have d3 := h3.c3
    have e0 := h3.fz 0
    have e3 := h3.fz 3
    by_cases t2 : G + 1 < W
    · go_quiet (fail)
      go_wp2_with fail
      go_returns
      refine ⟨rfl, FIN.out _ ?_, grownBy_drewN g3 _⟩
      rw [if_pos ⟨t1, t2⟩, if_pos ⟨t1, t2⟩]
      exact h3.drewN _
    · go_quiet (fail)
      go_wp2_with fail
      all_goals
        go_returns
        exact ⟨rfl, TAIL.out _ _ _ (h3.drewN _) (grownBy_drewN g3 _) (fun h => by omega) (by first | rw [if_pos (by omega)] | rw [if_neg (by omega)])⟩
  · go_quiet (fail)
    go_wp2_with fail
    all_goals
      go_returns
      exact ⟨rfl, TAIL.out _ _ _ (h1.drewN _) (grownBy_drewN g1 _) (fun h => by omega) (by first | rw [if_pos (by omega)] | rw [if_neg (by omega)])⟩

set_option maxRecDepth 100000 in
set_option maxHeartbeats 1600000 in
theorem bad_is (b : Nat) (W L T G : Int) (w : World) (h : FlowAt w b W L T G) (ok : FlowOk W L T G) :
    Calls Tryz.prog 191 #[.pointer (some ⟨b, 0, none⟩)] w fun e w' => e = .returned (.tuple #[]) ∧ FlowAt w' b 1 (badL W) (badT T) 0 ∧ w.grownBy w' (some b) := by
  have c0 := h.c0
  have c1 := h.c1
  have c2 := h.c2
  have c3 := h.c3
  have f0 := h.fz 0
  have f1 := h.fz 1
  have f2 := h.fz 2
  have f3 := h.fz 3
  obtain ⟨o1, o2, o3, o4, o5, o6, o7, o8⟩ := ok
  have w1' : IntKind.i64.wrap (2 * T) = 2 * T := IntWalk.i64_in _ (by omega)
  have w2' : IntKind.i64.wrap (W.tdiv 2) = W / 2 := by rw [Int.tdiv_eq_ediv_of_nonneg (by omega)]; exact IntWalk.i64_in _ (by omega)
  have fin : ∀ x y, x = badL W → y = badT T → FlowAt ((((w.setCell ⟨b, 1, none⟩ (.int .i64 x)).setCell ⟨b, 0, none⟩ (.int .i64 1)).setCell ⟨b, 3, none⟩ (.int .i64 0)).setCell ⟨b, 2, none⟩ (.int .i64 y)) b 1 (badL W) (badT T) 0 ∧
      w.grownBy ((((w.setCell ⟨b, 1, none⟩ (.int .i64 x)).setCell ⟨b, 0, none⟩ (.int .i64 1)).setCell ⟨b, 3, none⟩ (.int .i64 0)).setCell ⟨b, 2, none⟩ (.int .i64 y)) (some b) := by
    intro x y hx hy
    rw [← hx, ← hy]
    exact ⟨((((h.s1 x).s0 1).s3 0).s2 y), grownBy_trans (grownBy_trans (grownBy_trans (grownBy_set _ _ _ _) (grownBy_set _ _ _ _)) (grownBy_set _ _ _ _)) (grownBy_set _ _ _ _)⟩
  have FIN := Lib.hid fin
  clear fin
  go_enter Tryz.func191, Tryz.ntmps191
  go_wp2_with fail
  all_goals
    go_returns
    exact ⟨rfl, FIN.out _ _ (by unfold badL; first | rw [if_pos (by omega)] | (rw [if_neg (by omega)]; omega) | (split <;> omega)) (by unfold badT; first | rw [if_pos (by omega)] | (rw [if_neg (by omega)]; omega) | (split <;> omega))⟩
end Go.Proofs.YtppkeophochgiaaGreatDoor
/- Contracts: the reference's SameOps; the statements' OwnBlocks. -/
namespace Go.Proofs.YtppkeophochgiaaGreatDoor
open Go.RowKit
set_option linter.unusedVariables false

end Go.Proofs.YtppkeophochgiaaGreatDoor
/- SignSizes: a size of blocks is a power of 2; a file's blocks are as many as that makes. -/
namespace Go.Proofs.YtppkeophochgiaaGreatDoor
open Go.RowKit

end Go.Proofs.YtppkeophochgiaaGreatDoor
