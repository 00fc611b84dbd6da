/- Texts of one proof, one behind the other: ArgFil. -/
import Derived.Test.YtdpoalbbcmkceaaGreatDoorB29
import Derived.Test.YtdpoalbbcmkceaaGreatDoorB18
/- What a walk is told of a slice of files that came in. -/
namespace Go.Proofs.YtdpoalbbcmkceaaGreatDoor
open Go.RowKit Go.ChangeShapes Go.WideShapes Go.Deep
set_option linter.unusedVariables false

def PF.cells : Nat := 2
def PF.vals (f : PF) : List Value := [.string (bs f.n), .string (bs f.d)]
def PF.ok (f : PF) : Prop := f.n.length ≤ maxLen ∧ f.d.length ≤ maxLen
theorem PF.vals_len (f : PF) : f.vals.length = 2 := rfl
theorem PF.vals_is (l : List PF) : l.flatMap PF.vals = fcells l := rfl
theorem filFields : ∃ f0 f1, Tryz.prog.underlying 49 = some (.struct #[f0, f1]) ∧ f0.type = 9 ∧ f1.type = 9 ∧ oneCellFields Tryz.prog #[f0, f1] = true ∧ Tryz.prog.cellsOf 49 = 2 :=
  ⟨_, _, Tryz.underlying49, rfl, rfl, by kernel_rfl, by kernel_rfl⟩
theorem of_type49_PF {H : Type} {enc : TypeId × Value → H} {W : World} {a0 : Option Addr} {len0 cap0 : Nat} {d : DataW H} {p : List MemPlace}
    (h : DataW.Trod enc Tryz.prog W 0 (fun _ => true) true 22 (.slice a0 len0 cap0) d p) :
    ∃ l : List PF, SliceIs W (.slice a0 len0 cap0) PF.cells (l.flatMap PF.vals) ∧ ∀ x ∈ l, x.ok := by
  obtain ⟨fuel, hf⟩ := h
  obtain ⟨f0, f1, hs, t0, t1, hone, hC⟩ := filFields
  rcases open_slice_of Tryz.underlying22 hs hone hC hf with hcs | ⟨a, len, cap, hcs, hl, hm, hi⟩
  · refine ⟨[], .inl ⟨?_, rfl⟩, by simp⟩
    simp [Value.cells] at hcs
    obtain ⟨rfl, rfl, rfl⟩ := hcs
    rfl
  · simp [Value.cells] at hcs
    obtain ⟨rfl, rfl, rfl⟩ := hcs
    have each : ∀ i, i < len0 → ∃ o : PF, o.ok ∧ ∀ j u, o.vals[j]? = some u → W.cell? (a.add (i * 2 + j)) = some u := by
      intro i hil
      obtain ⟨n, hn⟩ := hi i hil
      obtain ⟨v0, y0, g0, q0⟩ := hn 0 f0 rfl
      obtain ⟨v1, y1, g1, q1⟩ := hn 1 f1 rfl
      rw [t0] at q0
      rw [t1] at q1
      obtain ⟨s0, e0, _, k0⟩ := DataW.trod_string Tryz.underlying9 q0
      obtain ⟨s1, e1, _, k1⟩ := DataW.trod_string Tryz.underlying9 q1
      simp at e0 e1
      subst e0 e1
      refine ⟨⟨s0.data.toList, s1.data.toList⟩, ⟨by simpa using k0, by simpa using k1⟩, fun j u hu => ?_⟩
      simp only [PF.vals, bs_of] at hu
      match j, hu with
      | 0, hu => simp at hu; subst hu; exact g0
      | 1, hu => simp at hu; subst hu; exact g1
    obtain ⟨l, hll, hq⟩ := list_of (fun i (o : PF) => o.ok ∧ ∀ j u, o.vals[j]? = some u → W.cell? (a.add (i * 2 + j)) = some u) len0 each
    refine ⟨l, .inr ⟨a, len0, cap0, rfl, hl, hm, ?_, ?_⟩, fun x hx => ?_⟩
    · rw [flat_len PF.vals 2 PF.vals_len, hll]; rfl
    · exact flat_cells PF.vals 2 (by decide) PF.vals_len l (fun i hi j u hu => (hq i hi).2 j u hu)
    · obtain ⟨i, hi, rfl⟩ := List.getElem_of_mem hx
      exact (hq i hi).1
end Go.Proofs.YtdpoalbbcmkceaaGreatDoor
