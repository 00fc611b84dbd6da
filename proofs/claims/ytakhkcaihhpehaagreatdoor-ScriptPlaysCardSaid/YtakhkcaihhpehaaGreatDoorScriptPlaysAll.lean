/-
  ScriptPlaysCardSaid ('packhorse/packhorselaw4.ScriptPlays'): for every input that can be read the Go law returns true, and its arguments read as before; the listed errors lie as the text lays them. The frame written by program (mkl.py).
-/
import Derived.Test.YtakhkcaihhpehaaGreatDoorRows
import Derived.Test.YtakhkcaihhpehaaGreatDoorCards
import Derived.Test.YtakhkcaihhpehaaGreatDoorTie
import Derived.Test.YtakhkcaihhpehaaGreatDoorB03
import Derived.Test.YtakhkcaihhpehaaGreatDoorB06
import Derived.Test.YtakhkcaihhpehaaGreatDoorB14
import Derived.Test.YtakhkcaihhpehaaGreatDoorB04
import Derived.Test.YtakhkcaihhpehaaGreatDoorB50
import Derived.WalkKit
import Derived.ProofKit
import Derived.OpenShut
import Derived.ShutString
import Derived.Below
import Derived.ChangeOld
import Derived.Carry
import Derived.Lay
import Derived.LaidMore
import Derived.SevenTiedAt
import Derived.LaidSub
namespace Go.Proofs.YtakhkcaihhpehaaGreatDoor.scriptPlays
open Go.ChangeShapes Go.WideShapes Go.ChangeAt Go.RowKit
open Go.ChangeMaps (open_string shut_string)
set_option linter.unusedVariables false

theorem own : ownKnob Tryz.prog.godebug = none := by kernel_rfl
theorem yof : laidOutB Tryz.prog = true := by kernel_rfl
theorem zvj : known [1, 2, 3, 4, 5, 6, 8, 9, 10, 11, 12, 14, 13] = true := by kernel_rfl
def yq7 (x : String × DataW Unit) : Bool := x.1 == "internal/strconv.uint64pow10"
theorem cutT : Rows.scriptPlaysRow.laid.filter yq7 = [("internal/strconv.uint64pow10", Lib.tabData .u64 Lib.pow10Tab)] := by rfl
def keep (x : String × DataW Unit) : Bool := !["math/bits.deBruijn32tab", "math/bits.deBruijn64tab", "internal/strconv.uint64pow10", "unicode/utf8.acceptRanges", "unicode/utf8.first"].contains x.1
theorem cut : Rows.scriptPlaysRow.laid.filter keep = ("errors.errorType", yop) :: [1, 2, 3, 4, 5, 6, 8, 9, 10, 11, 12, 14, 13].map zka := by rfl
theorem yk3 {os : Os} (args : Array Value) (hf : (World.doorLaid Tryz.prog 4000 os).layFits Tryz.prog (Rows.scriptPlaysRow.laid.filter fun x => x.2.handleName?.isNone) [] = true)
    (hi : (World.doorLaid Tryz.prog 4000 os).layIfaces Tryz.prog (Rows.scriptPlaysRow.laid.filter fun x => x.2.handleName?.isNone) ((World.doorLaid Tryz.prog 4000 os).layVars Tryz.prog (Rows.scriptPlaysRow.laid.filter fun x => x.2.handleName?.isNone)) = true) :
    laidMet Tryz.prog (Rows.scriptPlaysRow.laid.filter fun x => x.2.handleName?.isNone) (((World.doorLaid Tryz.prog 4000 os).layVars Tryz.prog (Rows.scriptPlaysRow.laid.filter fun x => x.2.handleName?.isNone)).forCall (fun _ _ => 0) ⟨#[], args, []⟩).memory := by
  revert hf hi
  generalize (Rows.scriptPlaysRow.laid.filter fun x => x.2.handleName?.isNone) = laid
  intro hf hi
  have e1 : (laid.filter fun x => (laid.map (·.1)).contains x.1) = laid := List.filter_eq_self.2 fun x hx => List.contains_iff_mem.2 (List.mem_map.2 ⟨x, hx, rfl⟩)
  have e2 : (laid.filter fun x => !(laid.map (·.1)).contains x.1) = [] := List.filter_eq_nil_iff.2 fun x hx => by rw [List.contains_iff_mem.2 (List.mem_map.2 ⟨x, hx, rfl⟩)]; simp
  have h : laidMet Tryz.prog laid ((World.doorLaid Tryz.prog 4000 os).layVars Tryz.prog laid) := laidMet_layVars (w0 := (World.doorLaid Tryz.prog 4000 os)) (laid.map (·.1)) [] (by rw [e1]) (by rw [e1]; exact hf) (by rw [e1]; exact hi) (by rw [e2]; exact LaidIn.none)
  exact h.of_heap (by simp [World.memory, World.forCall, Input.heap])

set_option maxRecDepth 100000 in
theorem yq6 (os : Os) (started : os.Started) (H : Type) (enc : TypeId × Value → H) :
    ReturnsInHanded {} Tryz.checked os 3 .any (fun w args => (Rows.scriptPlaysSpec.pre enc Tryz.prog Tryz.f3 [] false w args ∧ laidMetH Tryz.prog Rows.scriptPlaysRow.laid w) ∧ sizedMet enc Tryz.prog Tryz.f3 (OpenSpec.ofChange Rows.scriptPlaysSpec) false w args)
      (Rows.scriptPlaysSpec.post enc Tryz.prog Tryz.f3 false true false false) := by
  refine zel (C := Tryz.checked) (X := fun w _ => laidMetH Tryz.prog Rows.scriptPlaysRow.laid w) (fun _ _ _ hh h => h.of_heap hh) own started (by kernel_rfl) Tryz.func3
    (ChangeSpec.witness_shaped (enc := enc) (C := Tryz.checked) (os := os) (X := fun w _ => laidMetH Tryz.prog Rows.scriptPlaysRow.laid w) false ((World.doorLaid Tryz.prog 4000 os).layVars Tryz.prog (Rows.scriptPlaysRow.laid.filter fun x => x.2.handleName?.isNone)) #[.slice none 0 0] 8 (World.layVars_os _ _ _)
      (World.shaped_of_ZipB (by kernel_rfl) (by kernel_rfl)) (by kernel_rfl) (by kernel_rfl) (by kernel_rfl)
      (laidMetH_of_parts3 (fuel := 8) (yk3 _ (by kernel_rfl) (by kernel_rfl)) (by kernel_rfl) (by kernel_rfl))) ?_
  intro W base args ds gs before hval0 hW _ _ hL hsh _
  have hval : ∀ (j : Nat) t v, Tryz.f3.params[j]? = some t → args[j]? = some v → Value.okWide Tryz.prog W .any base t v := hval0
  have hW' := hW
  obtain ⟨p, q, hA0, hV, rfl, hfz, hnd⟩ := hW
  have hA : DataW.TrodAll enc Tryz.prog W 0 (fun _ => true) true Tryz.f3.params.toList args.toList ds p := hA0
  rw [Tryz.params3] at hA hval
  obtain ⟨v0, vs0, d0, ds0, p0, q0, hargs, rfl, rfl, h0, r0⟩ := trodAll_cons hA
  obtain ⟨rfl, rfl, rfl⟩ := trodAll_nil r0
  obtain rfl : args = #[v0] := by cases args; simp_all
  obtain ⟨rfl, rfl⟩ := trodVars_none hV
  obtain ⟨s0, n0, c0, rfl⟩ := okWide_slice Tryz.underlying22 (hval 0 22 v0 rfl rfl)
  have k0 := h0
  have lt0 : ∀ x ∈ p0, x.block < W.heap.size := by obtain ⟨m, hm⟩ := k0; exact DataW.trod_lt m _ _ _ hm
  obtain ⟨a0, w0⟩ := yag Tryz.underlying22 Tryz.underlying9 (by kernel_rfl) h0
  clear hA0 hval0
  have hT : laidMet Tryz.prog [("internal/strconv.uint64pow10", Lib.tabData .u64 Lib.pow10Tab)] W := by
    have h := hL.filter yq7
    rw [cutT, MakeChecks.laidMetH_plain _ _ _ (by kernel_rfl)] at h
    exact h
  have hl : laidMet Tryz.prog ([1, 2, 3, 4, 5, 6, 8, 9, 10, 11, 12, 14, 13].map zka) W := (zs3 (l := [1, 2, 3, 4, 5, 6, 8, 9, 10, 11, 12, 14, 13]) rfl (cut ▸ hL.filter keep)).1
  obtain ⟨E, hE, hD, hTX⟩ := zq9 hl zvj (by decide)
  refine (scriptPlays_walk E s0 n0 c0 a0 W w0 (zs3 (l := [1, 2, 3, 4, 5, 6, 8, 9, 10, 11, 12, 14, 13]) rfl (cut ▸ hL.filter keep)).2 (yqj hT) (yq3 hsh) hE hD hTX).mono fun e W' ⟨he, hg⟩ => ?_
  subst he
  exact ⟨_, rfl, _, _, _, [], _, [], hW', (trodAll_cons_mk (shut_bool Tryz.underlying4 _) trodAll_mk0), (trodAll_cons_mk (Below.trod yof (by kernel_rfl) (of_decide_eq_true (by kernel_rfl)) k0 hg lt0) trodAll_mk0), rfl, hg.frame _, fun h => by cases h⟩

theorem yrx {a b : Bool} (h : a = true) (k : b = true) : (a && b) = true := by rw [h, k]; rfl
set_option maxHeartbeats 12800000 in
theorem yq8 : joinedFacts Tryz.pinned.checked.prog 3 Tryz.f3 Rows.scriptPlaysSpec Rows.scriptPlaysRow = true := by
  unfold joinedFacts
  repeat' (with_reducible refine yrx ?_ ?_)
  all_goals (as_aux_lemma => kernel_rfl)
theorem said : Rows.ScriptPlaysSaid :=
  OpenClaim.holds_of_wide 3 Tryz.f3 rfl rfl rfl rfl rfl rfl rfl ⟨rfl, rfl, rfl, rfl, rfl⟩ rfl rfl rfl rfl rfl (by kernel_rfl) Tryz.func3 yq8
    (of_decide_eq_true (by kernel_rfl)) (by unfold Func.isWrapper; first | (rw [if_pos (by decide +kernel)]; kernel_rfl) | (rw [if_neg (by decide +kernel)]; exact ⟨rfl, rfl⟩))
    (fun os started H enc _ => yq6 os started H enc)

theorem yny (f : FuncId) (fn : Func) (hf : Tryz.pinned.checked.prog.funcNamed "packhorse/packhorselaw4.ScriptPlays" = some f) (hfn : Tryz.pinned.checked.prog.funcs[f]? = some fn) :
    true = Tryz.pinned.checked.prog.looks [] ∧ ∀ (j : Nat) t, fn.params[j]? = some t → Tryz.pinned.checked.prog.wantsStandIn t = false := by
  obtain rfl : f = 3 := Option.some.inj ((show Tryz.prog.funcNamed "packhorse/packhorselaw4.ScriptPlays" = some 3 by kernel_rfl).symm.trans hf) |>.symm
  obtain rfl : fn = Tryz.f3 := (Option.some.inj (Tryz.func3.symm.trans hfn)).symm
  refine ⟨by kernel_rfl, fun j t ht => ?_⟩
  have hall : (Tryz.f3.params.toList.all fun u => !Tryz.prog.wantsStandIn u) = true := by kernel_rfl
  exact (show Tryz.prog.wantsStandIn t = false by simpa using List.all_eq_true.1 hall t (by simpa using Array.mem_of_getElem? ht))

/-- THE STATEMENT -/
theorem proved : Rows.ScriptPlaysCardSaid :=
  Claim7.holds_tied_plain_at .later [] _ _ _ _ said (fun _ h => by cases h) (by kernel_rfl) (fun _ h => by cases h) scriptPlays_row_tie rfl ⟨rfl, rfl⟩ (by kernel_rfl) rfl yny (by kernel_rfl)
#print axioms proved
end Go.Proofs.YtakhkcaihhpehaaGreatDoor.scriptPlays
