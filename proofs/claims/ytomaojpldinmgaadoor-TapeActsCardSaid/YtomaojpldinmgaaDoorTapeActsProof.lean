/-
  TapeActsCardSaid ('packhorse/packhorselaw3.TapeActs'): for every input that can be read the Go law returns true, and its arguments read as before; the listed errors lie as the text lays them. The frame written by program (mkl.py).
-/
import Derived.Test.YtomaojpldinmgaaDoorRows
import Derived.Test.YtomaojpldinmgaaDoorCards
import Derived.Test.YtomaojpldinmgaaDoorTie
import Derived.Test.YtomaojpldinmgaaDoorLaid
import Derived.Test.YtomaojpldinmgaaDoorHand
import Derived.Test.YtomaojpldinmgaaDoorDoorS
import Derived.Test.YtomaojpldinmgaaDoorArgs
import Derived.Test.YtomaojpldinmgaaDoorTapeActs
import Derived.WalkKit
import Derived.ProofKit
import Derived.OpenShut
import Derived.ShutString
import Derived.Below
import Derived.ChangeOld
import Derived.Carry
import Derived.Lay
import Derived.LaidMore
import Derived.SevenTiedAt
import Derived.LaidSub
namespace Go.Proofs.YtomaojpldinmgaaDoor.tapeActs
open Go.ChangeShapes Go.WideShapes Go.ChangeAt Go.RowKit
open Go.ChangeMaps (open_string shut_string)
set_option linter.unusedVariables false

theorem own : ownKnob Tryd.prog.godebug = none := by kernel_rfl
theorem laidOut : laidOutB Tryd.prog = true := by kernel_rfl
theorem known_codes : known [1, 2, 3, 4, 5, 6, 7, 8, 9, 10, 11, 12, 14, 13] = true := by kernel_rfl
def keepT (x : String × DataW Unit) : Bool := x.1 == "internal/strconv.uint64pow10"
theorem cutT : Rows.tapeActsRow.laid.filter keepT = [("internal/strconv.uint64pow10", Lib.tabData .u64 Lib.pow10Tab)] := by rfl
def keep (x : String × DataW Unit) : Bool := !["math/bits.deBruijn32tab", "math/bits.deBruijn64tab", "internal/strconv.uint64pow10"].contains x.1
theorem cut : Rows.tapeActsRow.laid.filter keep = ("errors.errorType", hdat) :: [1, 2, 3, 4, 5, 6, 7, 8, 9, 10, 11, 12, 14, 13].map entry := by rfl
theorem door_all {os : Os} (args : Array Value) (hf : (World.doorLaid Tryd.prog 4000 os).layFits Tryd.prog (Rows.tapeActsRow.laid.filter fun x => x.2.handleName?.isNone) [] = true)
    (hi : (World.doorLaid Tryd.prog 4000 os).layIfaces Tryd.prog (Rows.tapeActsRow.laid.filter fun x => x.2.handleName?.isNone) ((World.doorLaid Tryd.prog 4000 os).layVars Tryd.prog (Rows.tapeActsRow.laid.filter fun x => x.2.handleName?.isNone)) = true) :
    laidMet Tryd.prog (Rows.tapeActsRow.laid.filter fun x => x.2.handleName?.isNone) (((World.doorLaid Tryd.prog 4000 os).layVars Tryd.prog (Rows.tapeActsRow.laid.filter fun x => x.2.handleName?.isNone)).forCall (fun _ _ => 0) ⟨#[], args, []⟩).memory := by
  revert hf hi
  generalize (Rows.tapeActsRow.laid.filter fun x => x.2.handleName?.isNone) = laid
  intro hf hi
  have e1 : (laid.filter fun x => (laid.map (·.1)).contains x.1) = laid := List.filter_eq_self.2 fun x hx => List.contains_iff_mem.2 (List.mem_map.2 ⟨x, hx, rfl⟩)
  have e2 : (laid.filter fun x => !(laid.map (·.1)).contains x.1) = [] := List.filter_eq_nil_iff.2 fun x hx => by rw [List.contains_iff_mem.2 (List.mem_map.2 ⟨x, hx, rfl⟩)]; simp
  have h : laidMet Tryd.prog laid ((World.doorLaid Tryd.prog 4000 os).layVars Tryd.prog laid) := laidMet_layVars (w0 := (World.doorLaid Tryd.prog 4000 os)) (laid.map (·.1)) [] (by rw [e1]) (by rw [e1]; exact hf) (by rw [e1]; exact hi) (by rw [e2]; exact LaidIn.none)
  exact h.of_heap (by simp [World.memory, World.forCall, Input.heap])

set_option maxRecDepth 100000 in
theorem lifted (os : Os) (started : os.Started) (H : Type) (enc : TypeId × Value → H) :
    ReturnsInHanded {} Tryd.checked os 3 .any (fun w args => (Rows.tapeActsSpec.pre enc Tryd.prog Tryd.f3 [] false w args ∧ laidMetH Tryd.prog Rows.tapeActsRow.laid w) ∧ sizedMet enc Tryd.prog Tryd.f3 (OpenSpec.ofChange Rows.tapeActsSpec) false w args)
      (Rows.tapeActsSpec.post enc Tryd.prog Tryd.f3 false true false false) := by
  refine returnsInHanded_of_change_andS (C := Tryd.checked) (X := fun w _ => laidMetH Tryd.prog Rows.tapeActsRow.laid w) (fun _ _ _ hh h => h.of_heap hh) own started (by kernel_rfl) Tryd.func3
    (ChangeSpec.witness_shaped (enc := enc) (C := Tryd.checked) (os := os) (X := fun w _ => laidMetH Tryd.prog Rows.tapeActsRow.laid w) false ((World.doorLaid Tryd.prog 4000 os).layVars Tryd.prog (Rows.tapeActsRow.laid.filter fun x => x.2.handleName?.isNone)) #[.string ByteArray.empty, .slice none 0 0] 8 (World.layVars_os _ _ _)
      (World.shaped_of_ZipB (by kernel_rfl) (by kernel_rfl)) (by kernel_rfl) (by kernel_rfl) (by kernel_rfl)
      (laidMetH_of_parts3 (fuel := 8) (door_all _ (by kernel_rfl) (by kernel_rfl)) (by kernel_rfl) (by kernel_rfl))) ?_
  intro W base args ds gs before hval0 hW _ _ hL hsh _
  have hval : ∀ (j : Nat) t v, Tryd.f3.params[j]? = some t → args[j]? = some v → Value.okWide Tryd.prog W .any base t v := hval0
  have hW' := hW
  obtain ⟨p, q, hA0, hV, rfl, hfz, hnd⟩ := hW
  have hA : DataW.TrodAll enc Tryd.prog W 0 (fun _ => true) true Tryd.f3.params.toList args.toList ds p := hA0
  rw [Tryd.params3] at hA hval
  obtain ⟨v0, vs0, d0, ds0, p0, q0, hargs, rfl, rfl, h0, r0⟩ := trodAll_cons hA
  obtain ⟨v1, vs1, d1, ds1, p1, q1, rfl, rfl, rfl, h1, r1⟩ := trodAll_cons r0
  obtain ⟨rfl, rfl, rfl⟩ := trodAll_nil r1
  obtain rfl : args = #[v0, v1] := by cases args; simp_all
  obtain ⟨rfl, rfl⟩ := trodVars_none hV
  obtain ⟨a0, rfl, rfl, rfl, w0⟩ := open_string Tryd.underlying9 (hval 0 9 v0 rfl rfl) h0
  obtain ⟨s1, n1, c1, rfl⟩ := okWide_slice Tryd.underlying22 (hval 1 22 v1 rfl rfl)
  have k1 := h1
  have lt1 : ∀ x ∈ p1, x.block < W.heap.size := by obtain ⟨m, hm⟩ := k1; exact DataW.trod_lt m _ _ _ hm
  obtain ⟨a1, w1⟩ := of_type33_PWr h1
  clear hA0 hval0
  have hT : laidMet Tryd.prog [("internal/strconv.uint64pow10", Lib.tabData .u64 Lib.pow10Tab)] W := by
    have h := hL.filter keepT
    rw [cutT, MakeChecks.laidMetH_plain _ _ _ (by kernel_rfl)] at h
    exact h
  have hl : laidMet Tryd.prog ([1, 2, 3, 4, 5, 6, 7, 8, 9, 10, 11, 12, 14, 13].map entry) W := (laid_errs (l := [1, 2, 3, 4, 5, 6, 7, 8, 9, 10, 11, 12, 14, 13]) rfl (cut ▸ hL.filter keep)).1
  obtain ⟨E, hE, hD⟩ := errs_of_laid hl known_codes (by decide)
  refine (tapeActs_walk E a0 s1 n1 c1 a1 W w0 w1 (laid_errs (l := [1, 2, 3, 4, 5, 6, 7, 8, 9, 10, 11, 12, 14, 13]) rfl (cut ▸ hL.filter keep)).2 (tab_of hT) (max_of hsh) hE hD).mono fun e W' ⟨he, hg⟩ => ?_
  subst he
  exact ⟨_, rfl, _, _, _, [], _, [], hW', (trodAll_cons_mk (shut_bool Tryd.underlying4 _) trodAll_mk0), (trodAll_cons_mk (shut_string Tryd.underlying9 w0) (trodAll_cons_mk (Below.trod laidOut (by kernel_rfl) (of_decide_eq_true (by kernel_rfl)) k1 hg lt1) trodAll_mk0)), rfl, hg.frame _, fun h => by cases h⟩

theorem said : Rows.TapeActsSaid :=
  OpenClaim.holds_of_wide 3 Tryd.f3 rfl rfl rfl rfl rfl rfl rfl ⟨rfl, rfl, rfl, rfl, rfl⟩ rfl rfl rfl rfl rfl (by kernel_rfl) Tryd.func3 (by kernel_rfl)
    (of_decide_eq_true (by kernel_rfl)) (by unfold Func.isWrapper; first | (rw [if_pos (by decide +kernel)]; kernel_rfl) | (rw [if_neg (by decide +kernel)]; exact ⟨rfl, rfl⟩))
    (fun os started H enc _ => lifted os started H enc)

theorem plainly (f : FuncId) (fn : Func) (hf : Tryd.pinned.checked.prog.funcNamed "packhorse/packhorselaw3.TapeActs" = some f) (hfn : Tryd.pinned.checked.prog.funcs[f]? = some fn) :
    true = Tryd.pinned.checked.prog.looks [] ∧ ∀ (j : Nat) t, fn.params[j]? = some t → Tryd.pinned.checked.prog.wantsStandIn t = false := by
  obtain rfl : f = 3 := Option.some.inj ((show Tryd.prog.funcNamed "packhorse/packhorselaw3.TapeActs" = some 3 by kernel_rfl).symm.trans hf) |>.symm
  obtain rfl : fn = Tryd.f3 := (Option.some.inj (Tryd.func3.symm.trans hfn)).symm
  refine ⟨by kernel_rfl, fun j t ht => ?_⟩
  have hall : (Tryd.f3.params.toList.all fun u => !Tryd.prog.wantsStandIn u) = true := by kernel_rfl
  exact (show Tryd.prog.wantsStandIn t = false by simpa using List.all_eq_true.1 hall t (by simpa using Array.mem_of_getElem? ht))

/-- THE STATEMENT -/
theorem proved : Rows.TapeActsCardSaid :=
  Claim7.holds_tied_plain_at .later [] _ _ _ _ said (fun _ h => by cases h) (by kernel_rfl) (fun _ h => by cases h) tapeActs_row_tie rfl ⟨rfl, rfl⟩ (by kernel_rfl) rfl plainly (by kernel_rfl)
#print axioms proved
end Go.Proofs.YtomaojpldinmgaaDoor.tapeActs
