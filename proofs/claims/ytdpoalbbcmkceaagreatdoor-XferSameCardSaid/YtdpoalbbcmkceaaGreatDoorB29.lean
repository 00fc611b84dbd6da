/- Texts of one proof, one behind the other: ArgGen, ArgOps. -/
import Derived.Test.YtdpoalbbcmkceaaGreatDoorB05
import Derived.Test.YtdpoalbbcmkceaaGreatDoorB20
import Derived.Deep.Slices
import Derived.Deep.Fields
/- Slices of structs that came in: what is alike for all. -/
namespace Go.Proofs.YtdpoalbbcmkceaaGreatDoor
open Go.RowKit Go.ChangeShapes Go.WideShapes Go.Deep

section
variable {H : Type} {enc : TypeId × Value → H} {P : Program} {w : World} {base : Nat} {spare : Nat → Bool} {held : Bool}
/-- a slice of structs of one-cell fields, opened: each field's cell and reading -/
theorem open_slice_of {t e : TypeId} {fs : Array Field} {fuel : Nat} {cs : List Value} {x : DataW H × List MemPlace} (ht : P.underlying t = some (.slice e)) (he : P.underlying e = some (.struct fs))
    (hone : oneCellFields P fs = true) (hC : P.cellsOf e = fs.size) (h : DataW.trod enc P w base spare held fuel t cs = some x) :
    (cs = [.slice none 0 0]) ∨
    ∃ (a : Addr) (len cap : Nat), cs = [.slice (some a) len cap] ∧ len ≤ cap ∧ cap ≤ maxLen ∧
      ∀ i, i < len → ∃ n : Nat, ∀ (j : Nat) (f : Field), fs[j]? = some f → ∃ (v : Value) (y : DataW H × List MemPlace), w.cell? (a.add (i * fs.size + j)) = some v ∧ DataW.trod enc P w base spare held n f.type [v] = some y := by
  rcases open_slice ht h with h0 | ⟨a, len, cap, m, n, D, Pl, hcs, hb, hl, hm, hmm, hx, hi⟩
  · exact .inl h0.1
  · have hlm : len ≤ m := by rw [hmm]; split <;> omega
    refine .inr ⟨a, len, cap, hcs, hl, hm, fun i him => ?_⟩
    obtain ⟨cs', hc, ht'⟩ := hi i (Nat.lt_of_lt_of_le him hlm)
    rw [hC] at hc
    obtain ⟨ys, n', hn', hy, hlen, hyl, hf⟩ := DataW.trod_struct he ht'
    obtain ⟨_, hcl, hat⟩ := World.cells?_some hc
    refine ⟨n', fun j f hj => ?_⟩
    obtain ⟨ho, hk⟩ := hone_of hone j f hj
    have hjl : j < fs.size := (Array.getElem?_eq_some_iff.1 hj).1
    have hcell := hat j hjl
    have hv : cs'[j]? = some (cs'[j]'(by omega)) := List.getElem?_eq_getElem (by omega)
    have h1 := hf j f hj
    rw [ho, hk] at h1
    have hone' : (cs'.drop j).take 1 = [cs'[j]'(by omega)] := by
      rw [List.drop_eq_getElem_cons (by omega)]
      rfl
    rw [hone'] at h1
    have hys : ys[j]? = some (ys[j]'(by omega)) := List.getElem?_eq_getElem (by omega)
    refine ⟨_, _, ?_, h1.trans hys⟩
    rw [← Go.Deep.add_add, hcell, hv]
end

/-- a list out of what holds of each index -/
theorem list_of {α : Type} (Q : Nat → α → Prop) : ∀ n, (∀ i, i < n → ∃ x, Q i x) → ∃ l : List α, l.length = n ∧ ∀ i (h : i < l.length), Q i l[i]
  | 0, _ => ⟨[], rfl, fun i h => by simp at h⟩
  | n + 1, h => by
    obtain ⟨l, hl, hq⟩ := list_of Q n (fun i hi => h i (by omega))
    obtain ⟨x, hx⟩ := h n (by omega)
    refine ⟨l ++ [x], by simp [hl], fun i hi => ?_⟩
    simp at hi
    by_cases hin : i < l.length
    · rw [List.getElem_append_left hin]; exact hq i hin
    · have : i = l.length := by omega
      subst this
      rw [List.getElem_append_right (by omega)]
      simp [hl]
      exact hl ▸ hx
theorem flat_cells {α : Type} (f : α → List Value) (k : Nat) (hk : 0 < k) (hf : ∀ a, (f a).length = k) {w : World} {a : Addr} (l : List α)
    (h : ∀ i (hi : i < l.length) j u, (f l[i])[j]? = some u → w.cell? (a.add (i * k + j)) = some u) : ∀ i u, (l.flatMap f)[i]? = some u → w.cell? (a.add i) = some u := by
  intro i u hu
  have hlt := (List.getElem?_eq_some_iff.1 hu).1
  rw [flat_len f k hf] at hlt
  have hq : i / k < l.length := (Nat.div_lt_iff_lt_mul hk).2 hlt
  have e : i = i / k * k + i % k := by rw [Nat.mul_comm]; exact (Nat.div_add_mod i k).symm
  have hg := flat_get f k hf l (i / k) (i % k) hq (Nat.mod_lt _ hk)
  rw [← e, hu] at hg
  have := h (i / k) hq (i % k) u hg.symm
  rwa [← e] at this

end Go.Proofs.YtdpoalbbcmkceaaGreatDoor
/- What a walk is told of a slice of ops that came in. -/
namespace Go.Proofs.YtdpoalbbcmkceaaGreatDoor
open Go.RowKit Go.ChangeShapes Go.WideShapes Go.Deep

theorem opFields : ∃ f0 f1 f2 f3, Tryz.prog.underlying 171 = some (.struct #[f0, f1, f2, f3]) ∧ f0.type = 9 ∧ f1.type = 3 ∧ f2.type = 3 ∧ f3.type = 9 ∧ oneCellFields Tryz.prog #[f0, f1, f2, f3] = true ∧ Tryz.prog.cellsOf 171 = 4 :=
  ⟨_, _, _, _, Tryz.underlying171, rfl, rfl, rfl, rfl, by kernel_rfl, by kernel_rfl⟩
theorem of_type171_POp {H : Type} {enc : TypeId × Value → H} {W : World} {a0 : Option Addr} {len0 cap0 : Nat} {d : DataW H} {p : List MemPlace}
    (h : DataW.Trod enc Tryz.prog W 0 (fun _ => true) true 122 (.slice a0 len0 cap0) d p) :
    ∃ l : List POp, SliceIs W (.slice a0 len0 cap0) POp.cells (l.flatMap POp.vals) ∧ ∀ x ∈ l, x.ok := by
  obtain ⟨fuel, hf⟩ := h
  obtain ⟨f0, f1, f2, f3, hs, t0, t1, t2, t3, hone, hC⟩ := opFields
  rcases open_slice_of Tryz.underlying122 hs hone hC hf with hcs | ⟨a, len, cap, hcs, hl, hm, hi⟩
  · refine ⟨[], .inl ⟨?_, rfl⟩, by simp⟩
    simp [Value.cells] at hcs
    obtain ⟨rfl, rfl, rfl⟩ := hcs
    rfl
  · simp [Value.cells] at hcs
    obtain ⟨rfl, rfl, rfl⟩ := hcs
    have each : ∀ i, i < len0 → ∃ o : POp, o.ok ∧ ∀ j u, o.vals[j]? = some u → W.cell? (a.add (i * 4 + j)) = some u := by
      intro i hil
      obtain ⟨n, hn⟩ := hi i hil
      obtain ⟨v0, y0, g0, q0⟩ := hn 0 f0 rfl
      obtain ⟨v1, y1, g1, q1⟩ := hn 1 f1 rfl
      obtain ⟨v2, y2, g2, q2⟩ := hn 2 f2 rfl
      obtain ⟨v3, y3, g3, q3⟩ := hn 3 f3 rfl
      rw [t0] at q0
      rw [t1] at q1
      rw [t2] at q2
      rw [t3] at q3
      obtain ⟨s0, e0, _, k0⟩ := DataW.trod_string Tryz.underlying9 q0
      obtain ⟨n1, e1, _, k1⟩ := DataW.trod_int Tryz.underlying3 q1
      obtain ⟨n2, e2, _, k2⟩ := DataW.trod_int Tryz.underlying3 q2
      obtain ⟨s3, e3, _, k3⟩ := DataW.trod_string Tryz.underlying9 q3
      simp at e0 e1 e2 e3
      subst e0 e1 e2 e3
      refine ⟨⟨s0.data.toList, n1, n2, s3.data.toList⟩, ⟨by simpa using k0, by simpa using k3, k1, k2⟩, fun j u hu => ?_⟩
      simp only [POp.vals, bs_of] at hu
      match j, hu with
      | 0, hu => simp at hu; subst hu; exact g0
      | 1, hu => simp at hu; subst hu; exact g1
      | 2, hu => simp at hu; subst hu; exact g2
      | 3, hu => simp at hu; subst hu; exact g3
    obtain ⟨l, hll, hq⟩ := list_of (fun i (o : POp) => o.ok ∧ ∀ j u, o.vals[j]? = some u → W.cell? (a.add (i * 4 + j)) = some u) len0 each
    refine ⟨l, .inr ⟨a, len0, cap0, rfl, hl, hm, ?_, ?_⟩, fun x hx => ?_⟩
    · rw [flat_len POp.vals 4 POp.vals_len, hll]; rfl
    · exact flat_cells POp.vals 4 (by decide) POp.vals_len l (fun i hi j u hu => (hq i hi).2 j u hu)
    · obtain ⟨i, hi, rfl⟩ := List.getElem_of_mem hx
      exact (hq i hi).1
end Go.Proofs.YtdpoalbbcmkceaaGreatDoor
