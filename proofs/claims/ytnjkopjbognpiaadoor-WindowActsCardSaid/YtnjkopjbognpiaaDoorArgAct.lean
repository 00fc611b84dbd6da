/- What a walk is told of a slice of acts that came in. -/
import Derived.Test.YtnjkopjbognpiaaDoorArgGen
namespace Go.Proofs.YtnjkopjbognpiaaDoor
open Go.RowKit Go.ChangeShapes Go.WideShapes Go.Deep
set_option linter.unusedVariables false

structure PAct where
  k : List UInt8
  s : List UInt8
  n : Int
  mv : Value
  more : List Int
def PAct.cells : Nat := 4
def PAct.vals (x : PAct) : List Value := [.string (bs x.k), .string (bs x.s), .int .i64 x.n, x.mv]
def PAct.ok (x : PAct) (w : World) : Prop := x.k.length ≤ maxLen ∧ x.s.length ≤ maxLen ∧ (Lit.int .i64 x.n).wf = true ∧ SliceIs w x.mv 1 (x.more.map (Value.int .i64)) ∧ ∃ a m c, x.mv = .slice a m c
theorem PAct.vals_len (x : PAct) : x.vals.length = 4 := rfl
theorem actFields : ∃ f0 f1 f2 f3, Tryd.prog.underlying 39 = some (.struct #[f0, f1, f2, f3]) ∧ f0.type = 9 ∧ f1.type = 9 ∧ f2.type = 3 ∧ f3.type = 31 ∧ oneCellFields Tryd.prog #[f0, f1, f2, f3] = true ∧ Tryd.prog.cellsOf 39 = 4 :=
  ⟨_, _, _, _, Tryd.underlying39, rfl, rfl, rfl, rfl, by kernel_rfl, by kernel_rfl⟩
theorem of_type39_PAct {H : Type} {enc : TypeId × Value → H} {W : World} {a0 : Option Addr} {len0 cap0 : Nat} {d : DataW H} {p : List MemPlace}
    (h : DataW.Trod enc Tryd.prog W 0 (fun _ => true) true 22 (.slice a0 len0 cap0) d p) :
    ∃ l : List PAct, SliceIs W (.slice a0 len0 cap0) PAct.cells (l.flatMap PAct.vals) ∧ ∀ x ∈ l, x.ok W := by
  obtain ⟨fuel, hf⟩ := h
  obtain ⟨f0, f1, f2, f3, hs, t0, t1, t2, t3, hone, hC⟩ := actFields
  rcases open_slice_of Tryd.underlying22 hs hone hC hf with hcs | ⟨a, len, cap, hcs, hl, hm, hi⟩
  · refine ⟨[], .inl ⟨?_, rfl⟩, by simp⟩
    simp [Value.cells] at hcs
    obtain ⟨rfl, rfl, rfl⟩ := hcs
    rfl
  · simp [Value.cells] at hcs
    obtain ⟨rfl, rfl, rfl⟩ := hcs
    have each : ∀ i, i < len0 → ∃ o : PAct, o.ok W ∧ ∀ j u, o.vals[j]? = some u → W.cell? (a.add (i * 4 + j)) = some u := by
      intro i hil
      obtain ⟨n, hn⟩ := hi i hil
      obtain ⟨v0, y0, g0, q0⟩ := hn 0 f0 rfl
      obtain ⟨v1, y1, g1, q1⟩ := hn 1 f1 rfl
      obtain ⟨v2, y2, g2, q2⟩ := hn 2 f2 rfl
      obtain ⟨v3, y3, g3, q3⟩ := hn 3 f3 rfl
      rw [t0] at q0
      rw [t1] at q1
      rw [t2] at q2
      rw [t3] at q3
      obtain ⟨s0, e0, _, k0⟩ := DataW.trod_string Tryd.underlying9 q0
      obtain ⟨s1, e1, _, k1⟩ := DataW.trod_string Tryd.underlying9 q1
      obtain ⟨n2, e2, _, k2⟩ := DataW.trod_int Tryd.underlying3 q2
      simp at e0 e1 e2
      subst e0 e1 e2
      obtain ⟨sa, sn, sc, rfl⟩ : ∃ sa sn sc, v3 = .slice sa sn sc := by
        rcases open_slice Tryd.underlying31 q3 with h0 | ⟨a, len, cap, m, n, D, Pl, hcs, _⟩
        · have := h0.1
          simp at this
          exact ⟨_, _, _, this⟩
        · simp at hcs
          exact ⟨_, _, _, hcs⟩
      obtain ⟨mo, hmo, _⟩ := of_ints Tryd.underlying31 Tryd.underlying3 (by kernel_rfl) (enc := enc) (W := W) (d := y3.1) (p := y3.2) ⟨n, by simpa [Value.cells] using q3⟩
      refine ⟨⟨s0.data.toList, s1.data.toList, n2, .slice sa sn sc, mo⟩, ⟨by simpa using k0, by simpa using k1, k2, hmo, _, _, _, rfl⟩, fun j u hu => ?_⟩
      simp only [PAct.vals, bs_of] at hu
      match j, hu with
      | 0, hu => simp at hu; subst hu; exact g0
      | 1, hu => simp at hu; subst hu; exact g1
      | 2, hu => simp at hu; subst hu; exact g2
      | 3, hu => simp at hu; subst hu; exact g3
    obtain ⟨l, hll, hq⟩ := list_of (fun i (o : PAct) => o.ok W ∧ ∀ j u, o.vals[j]? = some u → W.cell? (a.add (i * 4 + j)) = some u) len0 each
    refine ⟨l, .inr ⟨a, len0, cap0, rfl, hl, hm, ?_, ?_⟩, fun x hx => ?_⟩
    · rw [flat_len PAct.vals 4 PAct.vals_len, hll]; rfl
    · exact flat_cells PAct.vals 4 (by decide) PAct.vals_len l (fun i hi j u hu => (hq i hi).2 j u hu)
    · obtain ⟨i, hi, rfl⟩ := List.getElem_of_mem hx
      exact (hq i hi).1
end Go.Proofs.YtnjkopjbognpiaaDoor
