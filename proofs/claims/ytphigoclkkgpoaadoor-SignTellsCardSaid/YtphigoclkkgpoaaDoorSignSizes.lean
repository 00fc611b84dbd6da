/- SignSizes: a size of blocks is a power of 2; a file's blocks are as many as that makes. -/
import Derived.Test.YtphigoclkkgpoaaDoorSign
import Derived.Test.YtphigoclkkgpoaaDoorLaid
namespace Go.Proofs.YtphigoclkkgpoaaDoor
open Go.RowKit

theorem signed_data : blks 3 [97, 98, 99, 100, 101] = [⟨3, 38404390, csum [97, 98, 99]⟩, blk [100, 101]] ∧ blk [100, 101] = ⟨2, ws [100, 101], csum [100, 101]⟩ := by
  refine ⟨?_, by rw [blk_is]; rfl⟩
  unfold blks
  have h : cntOf 3 [(97 : UInt8), 98, 99, 100, 101].length = 2 := cnt_is (by simp) (by simp)
  rw [h, blksN_succ, blksN_succ, blksN_zero]
  simp only [List.nil_append, List.cons_append, List.drop, List.take, List.cons.injEq, and_true]
  rw [blk_is]
  have : ws [97, 98, 99] = 38404390 := by decide +kernel
  rw [this]
  rfl
set_option maxRecDepth 100000 in
set_option maxHeartbeats 1600000 in
theorem signed_ok (w : World) : Calls Tryd.prog 37 #[] w fun e w' => e = .returned (.bool true) ∧ Below w.heap.size w w' := by
  have OF := of_yes ⟨#[97, 98, 99, 100, 101]⟩ 3 w (by decide) (by decide) (by decide)
  simp only [signed_data.1] at OF
  rw [signed_data.2] at OF
  have HOF := Lib.hid OF
  clear OF
  go_enter Tryd.func37, Tryd.ntmps37
  go_wp2_with fail
  refine HOF.out.mono ?_
  rintro e w1 ⟨v, rfl, hown, b1⟩
  have hsl := SliceIs.ownedK hown
  obtain ⟨g, cap, hv, _, _, _, _, hc, _⟩ := owns_open hown (by decide)
  rw [hv] at hsl ⊢
  have h0 := hc 0 (.int .i64 3) (by rw [bcells_cons]; rfl)
  have h1 := hc 1 (.int .i64 38404390) (by rw [bcells_cons]; rfl)
  have h3 := hc 3 (.int .i64 2) (by rw [bcells_cons, bcells_cons]; rfl)
  have F := find_any _ _ _ _ ⟨#[100, 101]⟩ w1 (by decide) hsl
  have hF : findI [⟨3, 38404390, csum [97, 98, 99]⟩, ⟨2, ws [100, 101], csum [100, 101]⟩] (blk [100, 101]) = 1 := by
    rw [signed_data.2]; simp [findI, findB_cons]
  simp only [] at F
  rw [hF] at F
  have HF := Lib.hid F
  clear F hF hsl hc hown hv
  go_wp2_with (go_at_call 49; refine HF.out.mono ?_; rintro e w2 ⟨rfl, b2⟩)
  go_ret
  exact ⟨rfl, below_trans' b1 b2⟩

theorem sizeN_rem (b : Int) : (64 : Int) % (sizeN b : Int) = 0 := by
  rcases sizeN_is b with h | h | h | h | h <;> rw [h] <;> rfl

end Go.Proofs.YtphigoclkkgpoaaDoor
