/- The closed fact 'marked'. -/
import Derived.Test.YtomaojpldinmgaaGreatDoorBasFar
import Derived.Test.YtomaojpldinmgaaGreatDoorTapOne
namespace Go.Proofs.YtomaojpldinmgaaGreatDoor
open Go.RowKit
set_option linter.unusedVariables false

def tA1 : List UInt8 := [97]
def tD11 : List UInt8 := [49, 50, 51, 52, 53, 54, 55, 56, 57, 120, 121]
def mA9 : PMk := ⟨tA1, 9, 3421780262⟩
theorem bs_A1 : bs tA1 = ⟨#[97]⟩ := by unfold bs tA1; rfl
theorem bs_D11 : bs tD11 = ⟨#[49, 50, 51, 52, 53, 54, 55, 56, 57, 120, 121]⟩ := by unfold bs tD11; rfl
theorem mkX_A9 : bs (mkX mA9) = ⟨#[97, 32, 57, 32, 51, 52, 50, 49, 55, 56, 48, 50, 54, 50]⟩ := by
  have h1 : mkC mA9 = 0 := by decide +kernel
  have h2 : Lib.decDigits 9 = [57] := by rw [dec_small (by decide)]; rfl
  have h3 : Lib.decDigits 3421780262 = [51, 52, 50, 49, 55, 56, 48, 50, 54, 50] := by
    simp [dec_big, dec_small]
  have e : mkX mA9 = tA1 ++ 32 :: (Lib.decDigits 9 ++ 32 :: Lib.decDigits 3421780262) := by unfold mkX mkT; rw [if_pos h1]; rfl
  rw [e, h2, h3]
  unfold bs tA1; rfl
theorem mkC_A9 : mkC mA9 = 0 := by decide +kernel
theorem csum_A9 : csum (tD11.take 9) = 3421780262 := by decide +kernel
theorem far_A9 : farL tA1 tD11 [mA9] = 9 := by
  unfold farL farF farF
  rw [if_pos ⟨rfl, by decide, by decide, csum_A9⟩]
  rfl
attribute [local irreducible] mkX mkC farL tA1 tD11
theorem mk_one {w : World} {b : Nat} {t : TypeId} (h : w.heap[b]? = some (.cells #[.string (bs tA1), .int .i64 9, .int .u32 ((3421780262 : Nat) : Int)] t (0, 0))) : SliceIs w (.slice (some ⟨b, 0, none⟩) 1 1) 3 (mkcells [mA9]) :=
  .inr ⟨⟨b, 0, none⟩, 1, 1, rfl, Nat.le_refl _, by unfold maxLen; omega, rfl, fun i u hi => by
    have e : mkcells [mA9] = [.string (bs tA1), .int .i64 9, .int .u32 ((3421780262 : Nat) : Int)] := rfl
    rw [e] at hi
    exact three_newsM h i u hi⟩
set_option maxRecDepth 100000 in
set_option maxHeartbeats 6400000 in
theorem marked_ok (E : Nat → Addr) (w : World) (hw : LibW E w) (h2 : Has E w 2) (h5 : Has E w 5) : Calls Tryz.prog 8 #[] w fun e w' => e = .returned (.bool true) ∧ Below w.heap.size w w' := by
  have BT := btext_any E mA9 w hw (by decide +kernel) (by decide) h5 h2
  rw [mkX_A9, mkC_A9, ev_zero] at BT
  have ev : mA9.val = .agg #[.string ⟨#[97]⟩, .int .i64 9, .int .u32 3421780262] := by unfold PMk.val mA9; rw [bs_A1]; rfl
  rw [ev] at BT
  have BT := Lib.hid BT
  have FR := Lib.hid (fun (v : Value) (w' : World) (h : SliceIs w' v 3 (mkcells [mA9])) => bfar_any [mA9] v tA1 tD11 w' h (by decide +kernel))
  rw [far_A9, bs_A1, bs_D11] at FR
  clear hw h2 h5 ev
  go_enter Tryz.func8, Tryz.ntmps8
  go_wp2_with fail
  refine BT.out.mono ?_
  rintro e w1 ⟨rfl, b1⟩
  have B1 := Lib.hid b1
  clear b1 BT
  go_wp2_with fail
  have hn := heap_alloc_new w1 (.cells #[.string ⟨#[97]⟩, .int .i64 9, .int .u32 3421780262] 30)
  have bn := wb_alloc w1 (.cells #[.string ⟨#[97]⟩, .int .i64 9, .int .u32 3421780262] 30)
  refine (FR.out _ _ (mk_one (by rw [bs_A1]; exact hn))).mono ?_
  rintro e w2 ⟨rfl, b2⟩
  have B2 := Lib.hid (below_trans' (below_trans' B1.out bn) b2)
  clear hn bn b2 FR
  go_wp2_with fail
  go_ret
  exact ⟨rfl, B2.out⟩
end Go.Proofs.YtomaojpldinmgaaGreatDoor
