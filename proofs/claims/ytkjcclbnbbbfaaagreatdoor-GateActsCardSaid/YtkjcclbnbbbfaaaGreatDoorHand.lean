/- What a row that lists the handle and the errors gives a walk. -/
import Derived.Test.YtkjcclbnbbbfaaaGreatDoorCode
namespace Go.Proofs.YtkjcclbnbbbfaaaGreatDoor
open Go.RowKit Go.ChangeShapes
set_option linter.unusedVariables false

def hdat : DataW Unit := .iface "internal/reflectlite.rtype" (.agg [.ptr (.lit (.string [101, 114, 114, 111, 114]))])
theorem h_et : Tryz.prog.globalNamed "errors.errorType" = some 12 := by kernel_rfl
theorem h_rt : (Tryz.prog.cutTypes.find? (·.1 == "internal/reflectlite.rtype")).map (·.2) = some 232 := by kernel_rfl
theorem h_row : ((List.range 344).filter fun t => Tryz.prog.rowNamed t [101, 114, 114, 111, 114]) = [28] := by kernel_rfl
theorem h_size : Tryz.prog.types.size = 344 := by kernel_rfl
theorem h_entry (c : Nat) : (entry c).2.handleName? = none := by unfold entry; rfl
theorem hand_of {W : World} (h : handlesMet Tryz.prog [("errors.errorType", hdat)] W) : Hand W := by
  obtain ⟨name, u, ty, e1, e2, e3, e4, e5⟩ := h _ (List.mem_singleton.2 rfl)
  have en : name = [101, 114, 114, 111, 114] := (Option.some.inj e1).symm
  subst en
  obtain rfl := Option.some.inj (h_rt.symm.trans e2)
  have hm : ty ∈ (List.range 344).filter fun t => Tryz.prog.rowNamed t [101, 114, 114, 111, 114] := List.mem_filter.2 ⟨List.mem_range.2 (by rw [← h_size]; exact e3), e4⟩
  rw [h_row] at hm
  obtain rfl := List.mem_singleton.1 hm
  have hh : typeHandle Tryz.prog 28 = .pointer (some ⟨21, 28, none⟩) := by kernel_rfl
  rw [hh] at e5
  have := World.var?_cell h_et e5 0
  unfold Hand
  simpa using this
theorem f_none (l : List Nat) : (l.map entry).filter (fun x => x.2.handleName?.isSome) = [] := by
  rw [List.filter_eq_nil_iff]
  intro x hx
  obtain ⟨c, _, rfl⟩ := List.mem_map.1 hx
  rw [h_entry]; simp
theorem f_all (l : List Nat) : (l.map entry).filter (fun x => x.2.handleName?.isNone) = l.map entry := by
  rw [List.filter_eq_self]
  intro x hx
  obtain ⟨c, _, rfl⟩ := List.mem_map.1 hx
  rw [h_entry]; rfl
theorem laid_errs {L : List (String × DataW Unit)} {l : List Nat} {W : World} (e : L = ("errors.errorType", hdat) :: l.map entry) (h : laidMetH Tryz.prog L W) : laidMet Tryz.prog (l.map entry) W ∧ Hand W := by
  subst e
  have hs : (("errors.errorType", hdat) :: l.map entry).filter (fun x => x.2.handleName?.isSome) = [("errors.errorType", hdat)] := by
    rw [List.filter_cons_of_pos (by rfl), f_none]
  have hn : (("errors.errorType", hdat) :: l.map entry).filter (fun x => x.2.handleName?.isNone) = l.map entry := by
    rw [List.filter_cons_of_neg (by simp [hdat, DataW.handleName?]), f_all]
  unfold laidMetH at h
  rw [hs] at h
  simp only [hn] at h
  exact ⟨h.1, hand_of h.2⟩
end Go.Proofs.YtkjcclbnbbbfaaaGreatDoor
