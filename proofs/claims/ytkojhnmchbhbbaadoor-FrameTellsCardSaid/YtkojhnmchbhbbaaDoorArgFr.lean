/- What a walk is told of a frame that came in. -/
import Derived.Test.YtkojhnmchbhbbaaDoorFramePlain
import Derived.Lib.SmallJoins
namespace Go.Proofs.YtkojhnmchbhbbaaDoor
open Go.RowKit Go.ChangeShapes Go.WideShapes Go.Deep Go.Joins
set_option linter.unusedVariables false

def PFr.val (f : PFr) : Value := .agg #[.int .u8 f.k.toNat, .int .i64 f.e, .int .i64 f.q, .string (bs f.d)]
theorem PFr.val_is (f : PFr) : f.val = .agg #[.int .u8 f.k.toNat, .int .i64 f.e, .int .i64 f.q, .string (bs f.d)] := rfl
def PFr.ok (f : PFr) : Prop := (Lit.int .i64 f.e).wf = true ∧ (Lit.int .i64 f.q).wf = true ∧ f.d.length ≤ maxLen
theorem frFields : ∃ f0 f1 f2 f3, Tryd.prog.underlying 49 = some (.struct #[f0, f1, f2, f3]) ∧ f0.type = 5 ∧ f1.type = 3 ∧ f2.type = 3 ∧ f3.type = 9 ∧ oneCellFields Tryd.prog #[f0, f1, f2, f3] = true ∧ Tryd.prog.cellsOf 49 = 4 :=
  ⟨_, _, _, _, Tryd.underlying49, rfl, rfl, rfl, rfl, by kernel_rfl, by kernel_rfl⟩
set_option maxRecDepth 100000 in
set_option linter.constructorNameAsVariable false in
theorem opent49_PFr {H : Type} {enc : TypeId × Value → H} {W : World} {base : Nat} {v : Value} {d : DataW H} {p : List MemPlace} (hv : Value.okWide Tryd.prog W .any base 49 v)
    (h : DataW.Trod enc Tryd.prog W 0 (fun _ => true) true 49 v d p) : ∃ a : PFr, v = a.val ∧ a.ok := by
  obtain ⟨f0, f1, f2, f3, u, t0, t1, t2, t3, ho, hc⟩ := frFields
  obtain ⟨v0, v1, v2, v3, y0, y1, y2, y3, n, rfl, _, _, q0, q1, q2, q3⟩ := open_agg4 u ho hc hv h
  rw [t0] at q0
  rw [t1] at q1
  rw [t2] at q2
  rw [t3] at q3
  obtain ⟨n0, e0, _, k0⟩ := DataW.trod_int Tryd.underlying5 q0
  obtain ⟨n1, e1, _, k1⟩ := DataW.trod_int Tryd.underlying3 q1
  obtain ⟨n2, e2, _, k2⟩ := DataW.trod_int Tryd.underlying3 q2
  obtain ⟨s3, e3, _, k3⟩ := DataW.trod_string Tryd.underlying9 q3
  simp at e0 e1 e2 e3
  subst e0 e1 e2 e3
  obtain ⟨c, rfl⟩ := u8_of_wf k0
  exact ⟨⟨c, n1, n2, s3.data.toList⟩, by unfold PFr.val; simp only [bs_of], k1, k2, by simpa using k3⟩
end Go.Proofs.YtkojhnmchbhbbaaDoor
