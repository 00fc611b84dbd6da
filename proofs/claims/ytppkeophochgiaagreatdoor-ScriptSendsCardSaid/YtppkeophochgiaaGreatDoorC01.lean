/- What texts give besides. -/
import Derived.Test.YtppkeophochgiaaGreatDoorB01
import Derived.Lib.AtoiTie
import Derived.Lib.AtoiBound
import Derived.Lib.ItoaLen
import Derived.Lib.CutLaws
import Derived.Test.YtppkeophochgiaaGreatDoorB06
import Derived.Test.YtppkeophochgiaaGreatDoorB15
import Derived.Test.YtppkeophochgiaaGreatDoorB25
import Derived.Lib.SplitLaws
import Derived.Test.YtppkeophochgiaaGreatDoorB10
import Derived.Test.YtppkeophochgiaaGreatDoorB32
import Derived.Test.YtppkeophochgiaaGreatDoorB34
import Derived.Test.YtppkeophochgiaaGreatDoorB51
/- Plain laws of decimal numbers without needless zeros: what Itoa writes, what Atoi and the document's NumberOf read. No program is in sight. -/
namespace Go.Proofs.YtppkeophochgiaaGreatDoor
open Go.RowKit
set_option linter.unusedVariables false

theorem dec_digit (n : Nat) : ∀ c ∈ Lib.decDigits n, 48 ≤ c.toNat ∧ c.toNat ≤ 57 := by
  induction n using Nat.strongRecOn with
  | _ n ih =>
    intro c hc
    have one : ∀ k, k < 10 → (UInt8.ofNat (48 + k)).toNat = 48 + k := fun k hk => by rw [UInt8.toNat_ofNat']; omega
    by_cases h : n < 10
    · rw [dec_small h] at hc
      simp only [List.mem_singleton] at hc
      subst hc
      rw [one n h]; omega
    · rw [dec_big h] at hc
      rcases List.mem_append.1 hc with hc | hc
      · exact ih (n / 10) (by omega) c hc
      · simp only [List.mem_singleton] at hc
        subst hc
        rw [one _ (by omega)]; omega
end Go.Proofs.YtppkeophochgiaaGreatDoor
/- A text cut at a byte: what strings.Cut answers. No program is in sight. -/
namespace Go.Proofs.YtppkeophochgiaaGreatDoor
open Go.RowKit
set_option linter.unusedVariables false

theorem cutC_of {c : UInt8} {a : List UInt8} (h : c ∉ a) (r : List UInt8) : cutC c (a ++ c :: r) = some (a, r) := by
  induction a with
  | nil => exact cutC_yes c r
  | cons b a ih =>
    simp only [List.mem_cons, not_or] at h
    rw [List.cons_append, cutC_no (fun e => h.1 e.symm), ih h.2]; rfl
end Go.Proofs.YtppkeophochgiaaGreatDoor

/- Plain laws: what FilesKeep asks of plans that are done. No program is in sight. -/
namespace Go.Proofs.YtppkeophochgiaaGreatDoor
open Go.RowKit
set_option linter.unusedVariables false

theorem plan_same : ∀ (a : List PL), planL a a = a.map fun x => (⟨kKeep, x.n⟩ : PS)
  | [] => planL_none
  | x :: a => by
    rw [planL_step (by simp), step_same rfl]
    show [(⟨kKeep, x.n⟩ : PS)] ++ planL ((x :: a).drop 1) ((x :: a).drop 1) = _
    rw [List.drop_succ_cons, List.drop_zero, plan_same a]; rfl
end Go.Proofs.YtppkeophochgiaaGreatDoor

/- A text cut at each byte of a kind: what strings.Split answers. No program is in sight. -/
namespace Go.Proofs.YtppkeophochgiaaGreatDoor
open Go.RowKit
set_option linter.unusedVariables false

theorem splC_none {c : UInt8} {l : List UInt8} (h : c ∉ l) : splC c l = [l] := by rw [splC_cut, cutC_none.2 h]
theorem splC_app {c : UInt8} {a : List UInt8} (h : c ∉ a) (r : List UInt8) : splC c (a ++ c :: r) = a :: splC c r := by rw [splC_cut, cutC_of h]
end Go.Proofs.YtppkeophochgiaaGreatDoor

/- Plain laws of marks: a mark is read as it was written; how far a file is right. No program is in sight. -/
namespace Go.Proofs.YtppkeophochgiaaGreatDoor
open Go.RowKit
set_option linter.unusedVariables false

theorem dec_no32 (n : Nat) : (32 : UInt8) ∉ Lib.decDigits n := fun h => by
  have := dec_digit n _ h
  have : (32 : UInt8).toNat = 32 := rfl
  omega
theorem name_no32 {s : List UInt8} (h : nameB s = true) : (32 : UInt8) ∉ s := fun h2 => by
  have := List.all_eq_true.1 ((nameB_iff s).1 h).2.2 _ h2
  revert this; decide
end Go.Proofs.YtppkeophochgiaaGreatDoor

/- Plain laws of the document's NumberOf, digit by digit. No program is in sight. -/
namespace Go.Proofs.YtppkeophochgiaaGreatDoor
open Go.RowKit
set_option linter.unusedVariables false

/-! ### a place of a byte, by a search from the left -/
end Go.Proofs.YtppkeophochgiaaGreatDoor
/- The document's NumberOf. -/
namespace Go.Proofs.YtppkeophochgiaaGreatDoor
open Go.RowKit
set_option linter.unusedVariables false

attribute [local irreducible] nmL
theorem get_bs (s : ByteArray) (k : Nat) (h : k < s.size) : s.data.toList[k]? = some (s[k]'h) := by
  rw [List.getElem?_eq_getElem (by simpa using h)]; rfl
end Go.Proofs.YtppkeophochgiaaGreatDoor

/- The plain law of ScriptSends: behind a sending the plan keeps all, and the lists are the same. No program is in sight. -/
namespace Go.Proofs.YtppkeophochgiaaGreatDoor
open Go.RowKit
set_option linter.unusedVariables false
theorem splC_glue : ∀ l : List (List UInt8), l ≠ [] → (∀ a ∈ l, (32 : UInt8) ∉ a) → splC 32 (glueL l) = l
  | [], h, _ => absurd rfl h
  | [a], _, h => splC_none (h a (by simp))
  | a :: b :: l, _, h => by
    show splC 32 (a ++ 32 :: glueL (b :: l)) = _
    rw [splC_app (h a (by simp)), splC_glue (b :: l) (by simp) (fun x hx => h x (by simp only [List.mem_cons] at hx ⊢; exact .inr hx))]
theorem splC_join (l : List (List UInt8)) (h : ∀ a ∈ l, (32 : UInt8) ∉ a) : splC 32 (joinL l) = if l = [] then [txNone] else l := by
  unfold joinL
  by_cases h0 : l = []
  · rw [if_pos h0, if_pos h0]; decide
  · rw [if_neg h0, if_neg h0]; exact splC_glue l h0 h
/-- a word that says that a file is kept -/
def keepW (a : List UInt8) : Prop := a = txNone ∨ 6 ≤ a.length ∧ a.take 5 = [107, 101, 101, 112, 58]
theorem sends_list {s : SP} (h : SInv s) (l : List Nat) : ({ s with tt := SP.sent s.fr s.tt l } : SP).list wFrom = ({ s with tt := SP.sent s.fr s.tt l } : SP).list wFrom ∧ (({ s with tt := SP.sent s.fr s.tt l } : SP).list wFrom).2 = (({ s with tt := SP.sent s.fr s.tt l } : SP).list wTo).2 := by
  refine ⟨rfl, ?_⟩
  have e := (sent_law h.fr h.tt l).2
  have m : ∀ t : List PF, (t.map fun f => SP.lineT f.line) = (t.map PF.line).map SP.lineT := fun t => by rw [List.map_map]; rfl
  have h1 : sideW wFrom = some true := by decide
  have h2 : sideW wTo = some false := by decide
  unfold SP.list
  rw [h1, h2]
  simp only [SP.files, if_true, Bool.false_eq_true, if_false, m, e]
theorem sends_plan {s : SP} (h : SInv s) (l : List Nat) : ∀ a ∈ splC 32 (({ s with tt := SP.sent s.fr s.tt l } : SP).plan).2.1, keepW a := by
  have e := (sent_law h.fr h.tt l).2
  unfold SP.plan
  simp only [e, plan_same]
  rw [splC_join]
  · intro a ha
    split at ha
    · simp only [List.mem_singleton] at ha
      exact .inl ha
    · rw [List.map_map] at ha
      obtain ⟨x, hx, rfl⟩ := List.mem_map.1 ha
      have hn := (nameB_iff _).1 (h.fr.wf.lines.each x hx).1
      refine .inr ⟨?_, rfl⟩
      show 6 ≤ (kKeep ++ 58 :: x.n).length
      rw [List.length_append, List.length_cons, show kKeep.length = 4 from rfl]
      omega
  · intro a ha
    rw [List.map_map] at ha
    obtain ⟨x, hx, rfl⟩ := List.mem_map.1 ha
    have hn := name_no32 (h.fr.wf.lines.each x hx).1
    show (32 : UInt8) ∉ kKeep ++ 58 :: x.n
    simp only [List.mem_append, List.mem_cons, not_or]
    exact ⟨by decide, by decide, hn⟩
end Go.Proofs.YtppkeophochgiaaGreatDoor
