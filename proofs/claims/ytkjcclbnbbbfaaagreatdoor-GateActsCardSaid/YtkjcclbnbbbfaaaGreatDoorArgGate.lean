/- What a walk is told of a slice of a gate's acts that came in. -/
import Derived.Test.YtkjcclbnbbbfaaaGreatDoorArgGen
namespace Go.Proofs.YtkjcclbnbbbfaaaGreatDoor
open Go.RowKit Go.ChangeShapes Go.WideShapes Go.Deep
set_option linter.unusedVariables false

structure PGa where
  k : List UInt8
  s : List UInt8
  n : Int
def PGa.cells : Nat := 3
def PGa.vals (x : PGa) : List Value := [.string (bs x.k), .string (bs x.s), .int .i64 x.n]
def PGa.ok (x : PGa) : Prop := x.k.length ≤ maxLen ∧ x.s.length ≤ maxLen ∧ (Lit.int .i64 x.n).wf = true
theorem PGa.vals_len (x : PGa) : x.vals.length = 3 := rfl
theorem gaFields : ∃ f0 f1 f2, Tryz.prog.underlying 66 = some (.struct #[f0, f1, f2]) ∧ f0.type = 9 ∧ f1.type = 9 ∧ f2.type = 3 ∧ oneCellFields Tryz.prog #[f0, f1, f2] = true ∧ Tryz.prog.cellsOf 66 = 3 :=
  ⟨_, _, _, Tryz.underlying66, rfl, rfl, rfl, by kernel_rfl, by kernel_rfl⟩
theorem of_type66_PGa {H : Type} {enc : TypeId × Value → H} {W : World} {a0 : Option Addr} {len0 cap0 : Nat} {d : DataW H} {p : List MemPlace}
    (h : DataW.Trod enc Tryz.prog W 0 (fun _ => true) true 60 (.slice a0 len0 cap0) d p) :
    ∃ l : List PGa, SliceIs W (.slice a0 len0 cap0) PGa.cells (l.flatMap PGa.vals) ∧ ∀ x ∈ l, x.ok := by
  obtain ⟨fuel, hf⟩ := h
  obtain ⟨f0, f1, f2, hs, t0, t1, t2, hone, hC⟩ := gaFields
  rcases open_slice_of Tryz.underlying60 hs hone hC hf with hcs | ⟨a, len, cap, hcs, hl, hm, hi⟩
  · refine ⟨[], .inl ⟨?_, rfl⟩, by simp⟩
    simp [Value.cells] at hcs
    obtain ⟨rfl, rfl, rfl⟩ := hcs
    rfl
  · simp [Value.cells] at hcs
    obtain ⟨rfl, rfl, rfl⟩ := hcs
    have each : ∀ i, i < len0 → ∃ o : PGa, o.ok ∧ ∀ j u, o.vals[j]? = some u → W.cell? (a.add (i * 3 + j)) = some u := by
      intro i hil
      obtain ⟨n, hn⟩ := hi i hil
      obtain ⟨v0, y0, g0, q0⟩ := hn 0 f0 rfl
      obtain ⟨v1, y1, g1, q1⟩ := hn 1 f1 rfl
      obtain ⟨v2, y2, g2, q2⟩ := hn 2 f2 rfl
      rw [t0] at q0
      rw [t1] at q1
      rw [t2] at q2
      obtain ⟨s0, e0, _, k0⟩ := DataW.trod_string Tryz.underlying9 q0
      obtain ⟨s1, e1, _, k1⟩ := DataW.trod_string Tryz.underlying9 q1
      obtain ⟨n2, e2, _, k2⟩ := DataW.trod_int Tryz.underlying3 q2
      simp at e0 e1 e2
      subst e0 e1 e2
      refine ⟨⟨s0.data.toList, s1.data.toList, n2⟩, ⟨by simpa using k0, by simpa using k1, k2⟩, fun j u hu => ?_⟩
      simp only [PGa.vals, bs_of] at hu
      match j, hu with
      | 0, hu => simp at hu; subst hu; exact g0
      | 1, hu => simp at hu; subst hu; exact g1
      | 2, hu => simp at hu; subst hu; exact g2
    obtain ⟨l, hll, hq⟩ := list_of (fun i (o : PGa) => o.ok ∧ ∀ j u, o.vals[j]? = some u → W.cell? (a.add (i * 3 + j)) = some u) len0 each
    refine ⟨l, .inr ⟨a, len0, cap0, rfl, hl, hm, ?_, ?_⟩, fun x hx => ?_⟩
    · rw [flat_len PGa.vals 3 PGa.vals_len, hll]; rfl
    · exact flat_cells PGa.vals 3 (by decide) PGa.vals_len l (fun i hi j u hu => (hq i hi).2 j u hu)
    · obtain ⟨i, hi, rfl⟩ := List.getElem_of_mem hx
      exact (hq i hi).1
end Go.Proofs.YtkjcclbnbbbfaaaGreatDoor
