/- The closed fact 'gated'. -/
import Derived.Test.YtkjcclbnbbbfaaaGreatDoorGateText
import Derived.Test.YtkjcclbnbbbfaaaGreatDoorGateRead
import Derived.Test.YtkjcclbnbbbfaaaGreatDoorCode
namespace Go.Proofs.YtkjcclbnbbbfaaaGreatDoor
open Go.RowKit
set_option linter.unusedVariables false

/-- what the package gate wants of the world -/
structure GEnv (E : Nat → Addr) (w : World) : Prop where
  lib : LibW E w
  err : Errs E w
theorem GEnv.below {E : Nat → Addr} {w w' : World} (h : GEnv E w) (hb : Below w.heap.size w w') : GEnv E w' := ⟨h.lib.below hb, h.err.below hb⟩
theorem GEnv.has {E : Nat → Addr} {w : World} (h : GEnv E w) (c : Nat) (h1 : 1 ≤ c) (h2 : c ≤ 12) : Has E w c := h.err.has c h1 h2
def tkT : List UInt8 := [116]
theorem bs_tkT : bs tkT = ⟨#[116]⟩ := by unfold bs tkT; rfl
theorem gt_1 : opC' [] tkT = 0 ∧ opN [] tkT = 1 ∧ opM [] tkT = [(tkT, 1)] := by decide +kernel
theorem gt_2 : opC' [(tkT, 1)] tkT = 0 ∧ opN [(tkT, 1)] tkT = 2 ∧ opM [(tkT, 1)] tkT = [(tkT, 2)] := by decide +kernel
theorem gt_3 : adC [(tkT, 2)] tkT 1 = 11 ∧ adC [(tkT, 2)] tkT 2 = 0 := by decide +kernel
theorem gt_wf : GWF [(tkT, 2)] := ⟨by simp [GSrt], by simp; decide +kernel, by simp, by simp⟩
theorem gt_text : bs (gtext [(tkT, 2)]) = ⟨#[116, 32, 50, 10]⟩ := by
  unfold gtext
  simp only [List.flatMap_cons, List.flatMap_nil, List.append_nil, lineG]
  rw [dec_small (by omega)]
  unfold bs tkT
  rfl
attribute [local irreducible] opC' opN opM adC gtext tkT
set_option maxRecDepth 100000 in
set_option maxHeartbeats 6400000 in
theorem gated_ok (E : Nat → Addr) (w : World) (hE : GEnv E w) : Calls Tryz.prog 21 #[] w fun e w' => e = .returned (.bool true) ∧ Below w.heap.size w w' := by
  have HE := Lib.hid hE
  have ht := bs_tkT
  have htl : tkT.length ≤ 1000000000 := by unfold tkT; decide
  clear hE
  go_enter Tryz.func21, Tryz.ntmps21
  go_wp2_with fail
  refine (gnew_any _).mono ?_
  rintro e w1 ⟨gb, mb, rfl, g1, b1, lo1, lo2⟩
  have O1 := gopen_any (E := E) tkT g1 htl (by omega) ((HE.out.below b1).has 2 (by omega) (by omega)) ((HE.out.below b1).has 5 (by omega) (by omega)) ((HE.out.below b1).has 8 (by omega) (by omega))
  rw [gt_1.1, gt_1.2.1, gt_1.2.2, ht, ev_zero] at O1
  have HO1 := Lib.hid O1
  have B1 := Lib.hid b1
  clear O1 g1 b1
  go_wp2_with fail
  refine HO1.out.mono ?_
  rintro e w2 ⟨rfl, g2, c2⟩
  have b2 := c2.below B1.out (fun x hx => by subst hx; exact lo2)
  have O2 := gopen_any (E := E) tkT g2 htl (by omega) ((HE.out.below b2).has 2 (by omega) (by omega)) ((HE.out.below b2).has 5 (by omega) (by omega)) ((HE.out.below b2).has 8 (by omega) (by omega))
  rw [gt_2.1, gt_2.2.1, gt_2.2.2, ht, ev_zero] at O2
  have HO2 := Lib.hid O2
  have B2 := Lib.hid b2
  clear O2 g2 b2 c2 HO1
  go_wp2_with fail
  refine HO2.out.mono ?_
  rintro e w3 ⟨rfl, g3, c3⟩
  have b3 := c3.below B2.out (fun x hx => by subst hx; exact lo2)
  have A1 := gadmit_any (E := E) tkT 1 g3 htl ((HE.out.below b3).has 6 (by omega) (by omega)) ((HE.out.below b3).has 11 (by omega) (by omega))
  rw [gt_3.1, ht] at A1
  have A2 := Lib.hid (fun (w' : World) (b : Below w3.heap.size w3 w') => gadmit_any (E := E) tkT 2 (g3.below b) htl ((HE.out.below (below_trans' b3 b)).has 6 (by omega) (by omega)) ((HE.out.below (below_trans' b3 b)).has 11 (by omega) (by omega)))
  rw [gt_3.2, ht, ev_zero] at A2
  have TX := Lib.hid (fun (w' : World) (b : Below w3.heap.size w3 w') => gtext_any E gb mb _ _ _ w' (g3.below b) (HE.out.below (below_trans' b3 b)).lib (List.Perm.refl _) gt_wf)
  rw [gt_text] at TX
  have CD := Lib.hid (coded_ev E 11 w3 (HE.out.below b3).err (by omega))
  have HA1 := Lib.hid A1
  have B3 := Lib.hid b3
  clear A1 g3 c3 b3 HO2
  go_wp2_with fail
  refine HA1.out.mono ?_
  rintro e w4 ⟨rfl, rfl⟩
  go_wp2_with fail
  refine CD.out.mono ?_
  rintro e w5 ⟨rfl, b5⟩
  go_wp2_with fail
  refine (A2.out _ b5).mono ?_
  rintro e w6 ⟨rfl, rfl⟩
  go_wp2_with fail
  refine (TX.out _ b5).mono ?_
  rintro e w7 ⟨rfl, b7⟩
  go_wp2_with fail
  go_ret
  exact ⟨rfl, below_trans' (below_trans' B3.out b5) b7⟩
end Go.Proofs.YtkjcclbnbbbfaaaGreatDoor
