/- Texts of one proof, one behind the other: SignSizes. -/
import Derived.Test.YtdpoalbbcmkceaaGreatDoorB25
import Derived.Test.YtdpoalbbcmkceaaGreatDoorB04
/- SignSizes: a size of blocks is a power of 2; a file's blocks are as many as that makes. -/
namespace Go.Proofs.YtdpoalbbcmkceaaGreatDoor
open Go.RowKit

theorem signed_data : blks 3 [97, 98, 99, 100, 101] = [⟨3, 38404390, csum [97, 98, 99]⟩, blk [100, 101]] ∧ blk [100, 101] = ⟨2, ws [100, 101], csum [100, 101]⟩ := by
  refine ⟨?_, by rw [blk_is]; rfl⟩
  unfold blks
  have h : cntOf 3 [(97 : UInt8), 98, 99, 100, 101].length = 2 := cnt_is (by simp) (by simp)
  rw [h, blksN_succ, blksN_succ, blksN_zero]
  simp only [List.nil_append, List.cons_append, List.drop, List.take, List.cons.injEq, and_true]
  rw [blk_is]
  have : ws [97, 98, 99] = 38404390 := by decide +kernel
  rw [this]
  rfl
theorem sizeN_rem (b : Int) : (64 : Int) % (sizeN b : Int) = 0 := by
  rcases sizeN_is b with h | h | h | h | h <;> rw [h] <;> rfl

end Go.Proofs.YtdpoalbbcmkceaaGreatDoor
