/- What a walk is told of a slice of blocks that came in. -/
import Derived.Test.YtkhjhbgoccljfaaDoorArgOps
namespace Go.Proofs.YtkhjhbgoccljfaaDoor
open Go.RowKit Go.ChangeShapes Go.WideShapes Go.Deep
set_option linter.unusedVariables false

def Blk.ok (b : Blk) : Prop := (Lit.int .i64 b.N).wf = true ∧ (Lit.int .i64 b.W).wf = true ∧ b.S < 4294967296
def Blk.vals (b : Blk) : List Value := Blk.cells b
structure PBlk where
  b : Blk
def PBlk.cells : Nat := 3
def PBlk.vals (x : PBlk) : List Value := x.b.cells
def PBlk.ok (x : PBlk) : Prop := x.b.ok
theorem pvals_is (l : List PBlk) : l.flatMap PBlk.vals = bcells (l.map PBlk.b) := by
  induction l with
  | nil => rw [List.flatMap_nil, List.map_nil, bcells_nil]
  | cons x l ih => rw [List.flatMap_cons, List.map_cons, bcells_cons, ih]; rfl
theorem blkFields : ∃ f0 f1 f2, Tryd.prog.underlying 92 = some (.struct #[f0, f1, f2]) ∧ f0.type = 3 ∧ f1.type = 3 ∧ f2.type = 23 ∧ oneCellFields Tryd.prog #[f0, f1, f2] = true ∧ Tryd.prog.cellsOf 92 = 3 :=
  ⟨_, _, _, Tryd.underlying92, rfl, rfl, rfl, by kernel_rfl, by kernel_rfl⟩
theorem of_type92_PBlk {H : Type} {enc : TypeId × Value → H} {W : World} {a0 : Option Addr} {len0 cap0 : Nat} {d : DataW H} {p : List MemPlace}
    (h : DataW.Trod enc Tryd.prog W 0 (fun _ => true) true 40 (.slice a0 len0 cap0) d p) :
    ∃ l : List PBlk, SliceIs W (.slice a0 len0 cap0) PBlk.cells (l.flatMap PBlk.vals) ∧ ∀ x ∈ l, x.ok := by
  obtain ⟨fuel, hf⟩ := h
  obtain ⟨f0, f1, f2, hs, t0, t1, t2, hone, hC⟩ := blkFields
  rcases open_slice_of Tryd.underlying40 hs hone hC hf with hcs | ⟨a, len, cap, hcs, hl, hm, hi⟩
  · refine ⟨[], .inl ⟨?_, rfl⟩, by simp⟩
    simp [Value.cells] at hcs
    obtain ⟨rfl, rfl, rfl⟩ := hcs
    rfl
  · simp [Value.cells] at hcs
    obtain ⟨rfl, rfl, rfl⟩ := hcs
    have each : ∀ i, i < len0 → ∃ o : PBlk, o.ok ∧ ∀ j u, o.vals[j]? = some u → W.cell? (a.add (i * 3 + j)) = some u := by
      intro i hil
      obtain ⟨n, hn⟩ := hi i hil
      obtain ⟨v0, y0, g0, q0⟩ := hn 0 f0 rfl
      obtain ⟨v1, y1, g1, q1⟩ := hn 1 f1 rfl
      obtain ⟨v2, y2, g2, q2⟩ := hn 2 f2 rfl
      rw [t0] at q0
      rw [t1] at q1
      rw [t2] at q2
      obtain ⟨n0, e0, _, k0⟩ := DataW.trod_int Tryd.underlying3 q0
      obtain ⟨n1, e1, _, k1⟩ := DataW.trod_int Tryd.underlying3 q1
      obtain ⟨n2, e2, _, k2⟩ := DataW.trod_int Tryd.underlying23 q2
      simp at e0 e1 e2
      subst e0 e1 e2
      obtain ⟨c, rfl, hc⟩ := u32_of_wf k2
      refine ⟨⟨⟨n0, n1, c⟩⟩, ⟨k0, k1, hc⟩, fun j u hu => ?_⟩
      simp only [PBlk.vals, Blk.cells] at hu
      match j, hu with
      | 0, hu => simp at hu; subst hu; exact g0
      | 1, hu => simp at hu; subst hu; exact g1
      | 2, hu => simp at hu; subst hu; exact g2
    obtain ⟨l, hll, hq⟩ := list_of (fun i (o : PBlk) => o.ok ∧ ∀ j u, o.vals[j]? = some u → W.cell? (a.add (i * 3 + j)) = some u) len0 each
    refine ⟨l, .inr ⟨a, len0, cap0, rfl, hl, hm, ?_, ?_⟩, fun x hx => ?_⟩
    · rw [flat_len PBlk.vals 3 (fun x => Blk.cells_len x.b), hll]; rfl
    · exact flat_cells PBlk.vals 3 (by decide) (fun x => Blk.cells_len x.b) l (fun i hi j u hu => (hq i hi).2 j u hu)
    · obtain ⟨i, hi, rfl⟩ := List.getElem_of_mem hx
      exact (hq i hi).1
end Go.Proofs.YtkhjhbgoccljfaaDoor
