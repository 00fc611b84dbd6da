/- The closed fact 'filed'. -/
import Derived.Test.YtapdfgnfblkncaaGreatDoorFilLines
import Derived.Test.YtapdfgnfblkncaaGreatDoorFilIns
namespace Go.Proofs.YtapdfgnfblkncaaGreatDoor
open Go.RowKit
set_option linter.unusedVariables false

def fil0 : PF := ⟨[97], [49, 50, 51, 52, 53, 54, 55, 56, 57]⟩
theorem fil0_put : fputL [] [97] [49, 50, 51, 52, 53, 54, 55, 56, 57] = [fil0] := rfl
theorem fil0_fault : flFault [fil0] = (0, -1) := by decide +kernel
theorem fil0_get : fgetL [fil0] [97] = some [49, 50, 51, 52, 53, 54, 55, 56, 57] := by decide +kernel
theorem fil0_sum : ((fil0.line.S : Nat) : Int) = 3421780262 := by decide +kernel
theorem bs_a : bs [97] = ⟨#[97]⟩ := by unfold bs; rfl
theorem bs_19 : bs [49, 50, 51, 52, 53, 54, 55, 56, 57] = ⟨#[49, 50, 51, 52, 53, 54, 55, 56, 57]⟩ := by unfold bs; rfl
theorem FOk.nil : FOk [] := fun f h => by cases h
theorem FWF.nil : FWF [] := ⟨by simp, by simp, by simp⟩
theorem fil0_ok : FOk [fil0] := fun f h => by rw [List.mem_singleton] at h; subst h; unfold maxLen fil0; simp
set_option maxRecDepth 100000 in
set_option maxHeartbeats 3200000 in
theorem filed_ok (E : Nat → Addr) (w : World) (h2 : Has E w 2) (h5 : Has E w 5) (h8 : Has E w 8) (h9 : Has E w 9) : Calls Tryz.prog 4 #[] w fun e w' => e = .returned (.bool true) ∧ Below w.heap.size w w' := by
  have PU := flput_new E [] (.slice none 0 0) [97] [49, 50, 51, 52, 53, 54, 55, 56, 57] w (.inl ⟨rfl, by rw [fcells_nil]⟩) FOk.nil (by unfold maxLen; decide) (by unfold maxLen; decide) h2 h5 h8 h9 FWF.nil rfl
  rw [fil0_put, fil0_fault] at PU
  simp only [bs_a, bs_19] at PU
  have LI := Lib.hid (fun v (w' : World) (hl : SliceIs w' v 2 (fcells [fil0])) (b : Below w.heap.size w w') => fllist_yes E [fil0] v w' hl fil0_ok (h2.below b) (h5.below b) (h8.below b) (h9.below b) ((flFault_wf _).1 (by rw [fil0_fault])))
  have GE := fun v (w' : World) (hl : SliceIs w' v 2 (fcells [fil0])) => flget_any [fil0] v [97] w' hl
  rw [fil0_get] at GE
  simp only [bs_a, bs_19, Option.getD_some, Option.isSome_some] at GE
  have HGE := Lib.hid GE
  have HPU := Lib.hid PU
  clear PU GE h2 h5 h8 h9
  go_enter Tryz.func4, Tryz.ntmps4
  go_wp2_with fail
  refine HPU.out.mono ?_
  rintro e w1 ⟨r, er, rfl, fe, ow, _, b1⟩
  obtain rfl := fe.zero
  have o1 := ow (by trivial)
  have O1 := Lib.hid o1
  have B1 := Lib.hid b1
  obtain ⟨va, vc, rfl⟩ := owns_slice o1
  clear fe ow o1 b1 HPU
  go_wp2_with fail
  refine (LI.out _ _ (SliceIs.ownedK O1.out) B1.out).mono ?_
  rintro e w2 ⟨r, rfl, o2, b2⟩
  have O2 := Lib.hid (owns_below O1.out b2)
  have P2 := Lib.hid o2
  have B2 := Lib.hid (below_trans' B1.out b2)
  obtain ⟨vb, vd, rfl⟩ := owns_slice o2
  clear o2 b2 LI
  go_wp2_with fail
  refine (HGE.out _ _ (SliceIs.ownedK O2.out)).mono ?_
  rintro e w3 ⟨rfl, b3⟩
  obtain ⟨s', n', c', q, _, _, _, g1⟩ := (SliceIs.ownedK (owns_below P2.out b3)).get
  cases q
  obtain ⟨_, _, a2⟩ := lcells_get ([fil0].map PF.line) 0 (by decide)
  obtain ⟨ad, rfl, d2⟩ := g1 _ _ a2
  have d2 : w3.cell? ⟨ad.block, ad.off + 2, none⟩ = some (.int .u32 3421780262) := by rw [← fil0_sum]; exact cell_at d2
  have B3 := Lib.hid (below_trans' B2.out b3)
  clear g1 a2 b3
  go_wp2_with fail
  go_ret
  exact ⟨rfl, B3.out⟩
end Go.Proofs.YtapdfgnfblkncaaGreatDoor
