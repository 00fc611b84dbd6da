/- The closed fact 'framed'. -/
import Derived.Test.YtkojhnmchbhbbaaDoorFrDec
import Derived.Test.YtkojhnmchbhbbaaDoorFrEq
namespace Go.Proofs.YtkojhnmchbhbbaaDoor
open Go.RowKit
set_option linter.unusedVariables false
attribute [local irreducible] frB lowL rdF decF

def fr0 : PFr := ⟨97, 1, 2, [120, 121]⟩
theorem fr0_code : frC fr0 = 0 := by decide +kernel
theorem fr0_len : (frT fr0).length = 10 := by decide +kernel
theorem fr0_six : (frT fr0).take 6 = [97, 1, 2, 2, 120, 121] := by decide +kernel
theorem fr0_val : fr0.val = .agg #[.int .u8 97, .int .i64 1, .int .i64 2, .string ⟨#[120, 121]⟩] := by unfold fr0 PFr.val bs; rfl
attribute [local irreducible] frT frC
set_option maxRecDepth 100000 in
set_option maxHeartbeats 3200000 in
theorem framed_ok (E : Nat → Addr) (w : World) (h1 : Has E w 1) (h2 : Has E w 2) (h4 : Has E w 4) (h10 : Has E w 10) : Calls Tryd.prog 20 #[] w fun e w' => e = .returned (.bool true) ∧ Below w.heap.size w w' := by
  have EN := fenc_any E fr0 w h2 h4
  have hl := fr0_len
  have DE := fun (w' : World) (b : Below w.heap.size w w') => fdec_any E (bs (frT fr0)) w' (by rw [bs_size, hl]; decide) (h1.below b) (h2.below b) (h4.below b) (h10.below b)
  rw [encL_yes fr0_code, fr0_code, fr0_val, ev_zero] at EN
  simp only [bs_list, dec_enc fr0 fr0_code, fr0_val, ev_zero] at DE
  have hsx : (bs (frT fr0)).extract 0 6 = ⟨#[97, 1, 2, 2, 120, 121]⟩ := by rw [bs_take, bs_list, fr0_six]; unfold bs; rfl
  have hsz : (bs (frT fr0)).size = 10 := by rw [bs_size, hl]
  generalize bs (frT fr0) = X at EN DE hsx hsz
  have HEN := Lib.hid EN
  have HDE := Lib.hid DE
  clear EN DE hl
  go_enter Tryd.func20, Tryd.ntmps20
  go_wp2_with fail
  refine HEN.out.mono ?_
  rintro e w1 ⟨rfl, b1⟩
  go_wp2_with fail
  refine (HDE.out w1 b1).mono ?_
  rintro e w2 ⟨rfl, b2⟩
  have b02 := below_trans' b1 b2
  go_wp2_with fail
  go_ret
  exact ⟨rfl, b02.alloc b02.size _⟩
end Go.Proofs.YtkojhnmchbhbbaaDoor
