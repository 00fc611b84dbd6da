/- Plain laws of lists, plans and files: what FilesBack asks. No program is in sight. -/
import Derived.Test.YtapdfgnfblkncaaDoorFilRead
import Derived.Test.YtapdfgnfblkncaaDoorFilLines
namespace Go.Proofs.YtapdfgnfblkncaaDoor
open Go.RowKit
set_option linter.unusedVariables false

theorem FWF.lines {l : List PF} (h : FWF l) : LWF (l.map PF.line) :=
  ⟨by rw [List.length_map]; exact h.few, fun x hx => by
    obtain ⟨f, hf, rfl⟩ := List.mem_map.1 hx
    obtain ⟨h1, h2⟩ := h.each f hf
    exact ⟨h1, by show (0 : Int) ≤ f.d.length; omega, by show (f.d.length : Int) ≤ 4000; omega⟩, List.pairwise_map.2 h.sorted⟩
theorem lines_sum (l : List PF) : ∀ x ∈ l.map PF.line, x.S < 4294967296 := by
  intro x hx
  obtain ⟨f, _, rfl⟩ := List.mem_map.1 hx
  exact csum_lt _
def BackOK (l m : List PF) (s : PS) : Prop :=
  (s.k = kSend ∧ ∃ u, fgetL l s.n = some u ∧ ∀ v, fgetL m s.n = some v → u ≠ v) ∨ (s.k = kKeep ∧ ∃ u v, fgetL l s.n = some u ∧ fgetL m s.n = some v ∧ u.length = v.length) ∨ (s.k = kDrop ∧ fgetL l s.n = none ∧ ∃ v, fgetL m s.n = some v)
theorem back_law {l m : List PF} (hl : FWF l) (hm : FWF m) : ∀ s ∈ planL (l.map PF.line) (m.map PF.line), BackOK l m s := by
  intro s hs
  have P := planL_law hl.lines.sorted hm.lines.sorted
  rcases P.of s hs with ⟨h1, x, hx, h2, h3⟩ | ⟨h1, x, hx, h2, h3⟩ | ⟨h1, ⟨y, hy, h2⟩, h3⟩
  · obtain ⟨f, hf, rfl⟩ := List.mem_map.1 hx
    have hn : f.n = s.n := h2
    refine .inl ⟨h1, f.d, by rw [← hn]; exact fgetL_of hl.sorted hf, fun v hv e => h3 ?_⟩
    have := fgetL_some hv
    rw [← e, ← hn] at this
    exact List.mem_map.2 ⟨_, this, rfl⟩
  · obtain ⟨f, hf, rfl⟩ := List.mem_map.1 hx
    obtain ⟨g, hg, e⟩ := List.mem_map.1 h3
    have hn : f.n = s.n := h2
    have e1 : g.n = f.n := congrArg PL.n e
    have e2 : (g.d.length : Int) = f.d.length := congrArg PL.N e
    exact .inr (.inl ⟨h1, f.d, g.d, by rw [← hn]; exact fgetL_of hl.sorted hf, by rw [← hn, ← e1]; exact fgetL_of hm.sorted hg, by omega⟩)
  · obtain ⟨g, hg, rfl⟩ := List.mem_map.1 hy
    have hn : g.n = s.n := h2
    refine .inr (.inr ⟨h1, ?_, g.d, by rw [← hn]; exact fgetL_of hm.sorted hg⟩)
    cases e : fgetL l s.n with
    | none => rfl
    | some d => exact absurd rfl (h3 _ (List.mem_map.2 ⟨_, fgetL_some e, rfl⟩))
theorem back_all {l m : List PF} (hl : FWF l) (hm : FWF m) : ∀ f ∈ l, ∃ s ∈ planL (l.map PF.line) (m.map PF.line), s.n = f.n := by
  intro f hf
  have P := planL_law hl.lines.sorted hm.lines.sorted
  obtain ⟨h1, h2⟩ := P.all f.line (List.mem_map.2 ⟨f, hf, rfl⟩)
  by_cases h : f.line ∈ m.map PF.line
  · exact ⟨_, h2 h, rfl⟩
  · exact ⟨_, h1 h, rfl⟩
theorem back_sorted {l m : List PF} (hl : FWF l) (hm : FWF m) : (planL (l.map PF.line) (m.map PF.line)).Pairwise fun x y => ltL x.n y.n = true := (planL_law hl.lines.sorted hm.lines.sorted).sorted
theorem pair_get {p : List PS} (h : p.Pairwise fun x y => ltL x.n y.n = true) {i : Nat} (h0 : 0 < i) (hi : i < p.length) : ltL (p[i - 1]'(by omega)).n p[i].n = true := List.pairwise_iff_getElem.1 h (i - 1) i (by omega) hi (by omega)
end Go.Proofs.YtapdfgnfblkncaaDoor
