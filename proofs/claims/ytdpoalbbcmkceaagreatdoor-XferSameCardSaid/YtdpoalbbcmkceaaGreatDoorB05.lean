/- Texts of one proof, one behind the other: Args. -/
import Derived.Test.YtdpoalbbcmkceaaGreatDoorRows
import Derived.Test.YtdpoalbbcmkceaaGreatDoorB02
import Derived.ChangeOld
import Derived.Deep.Grids
import Derived.SliceStrings
import Derived.Below
import Derived.OpenShut
import Derived.WalkKit
import Derived.ProofKit
/- What a walk is told of a slice that came in: the cells of its elements. -/
namespace Go.Proofs.YtdpoalbbcmkceaaGreatDoor
open Go.RowKit Go.ChangeShapes Go.WideShapes Go.ChangeAt Go.Deep

/-- v is a slice whose cells are vals, k for each element -/
def SliceIs (W : World) (v : Value) (k : Nat) (vals : List Value) : Prop :=
  (v = .slice none 0 0 ∧ vals = []) ∨ ∃ a len cap, v = .slice (some a) len cap ∧ len ≤ cap ∧ cap ≤ maxLen ∧ vals.length = len * k ∧ ∀ i u, vals[i]? = some u → W.cell? (a.add i) = some u
theorem SliceIs.below {W W' : World} {v : Value} {k : Nat} {vals : List Value} (h : SliceIs W v k vals) (hb : Below W.heap.size W W') : SliceIs W' v k vals := by
  rcases h with h | ⟨a, len, cap, h1, h2, h3, h4, h5⟩
  · exact .inl h
  · refine .inr ⟨a, len, cap, h1, h2, h3, h4, fun i u hi => ?_⟩
    have := h5 i u hi
    exact (hb.cell (p := a.add i) (World.block_lt_of_cell? W _ this)).trans this

/-- a slice opened -/
theorem SliceIs.get {W : World} {v : Value} {k : Nat} {vals : List Value} (h : SliceIs W v k vals) :
    ∃ s n c, v = .slice s n c ∧ vals.length = n * k ∧ n ≤ c ∧ c ≤ maxLen ∧ ∀ i u, vals[i]? = some u → ∃ a, s = some a ∧ W.cell? (a.add i) = some u := by
  rcases h with ⟨rfl, rfl⟩ | ⟨a, len, cap, rfl, h2, h3, h4, h5⟩
  · exact ⟨none, 0, 0, rfl, by simp, Nat.le_refl _, by unfold maxLen; omega, fun i u h => by simp at h⟩
  · exact ⟨some a, len, cap, rfl, h4, h2, h3, fun i u h => ⟨a, rfl, h5 i u h⟩⟩
theorem SliceIs.drewN {W : World} {v : Value} {k : Nat} {vals : List Value} (h : SliceIs W v k vals) (m : Nat) : SliceIs (W.drewN m) v k vals := h
/-- a row of the call's own is such a slice -/
theorem SliceIs.owned {W : World} {base : Nat} {e : TypeId} {v : Value} {n : Nat} {vals : List Value} (h : W.ownsRow base e 1 v n vals) : SliceIs W v 1 vals := by
  have h0 := h
  obtain ⟨h1, h2⟩ := h
  rcases h2 with ⟨rfl, h2⟩ | ⟨g, cap, cur, rfl, hg, hh, h3, h4, h5⟩
  · exact .inl ⟨rfl, List.eq_nil_of_length_eq_zero (by omega)⟩
  · refine .inr ⟨⟨g, 0, none⟩, n, cap, rfl, h3, h4, by omega, fun i u hi => ?_⟩
    have := h0.cells (g := g) rfl i u hi
    simpa [Addr.add] using this

section
variable {H : Type} {enc : TypeId × Value → H} {P : Program} {W : World} {a0 : Option Addr} {len0 cap0 : Nat} {d : DataW H} {p : List MemPlace} {t e : TypeId}
theorem of_bools (ht : P.underlying t = some (.slice e)) (he : P.underlying e = some .bool) (hc : P.cellsOf e = 1) (h : DataW.Trod enc P W 0 (fun _ => true) true t (.slice a0 len0 cap0) d p) :
    ∃ l : List Bool, SliceIs W (.slice a0 len0 cap0) 1 (l.map .bool) := by
  obtain ⟨fuel, hf⟩ := h
  rcases open_bools ht he hc hf with ⟨hcs, _⟩ | ⟨a, len, cap, B, hcs, _, hl, hm, _, hcell⟩
  · refine ⟨[], .inl ⟨?_, rfl⟩⟩
    simp [Value.cells] at hcs
    obtain ⟨rfl, rfl, rfl⟩ := hcs
    rfl
  · refine ⟨(List.range len).map B, .inr ⟨a, len, cap, ?_, hl, hm, by simp, fun i u hi => ?_⟩⟩
    · simp [Value.cells] at hcs
      obtain ⟨rfl, rfl, rfl⟩ := hcs
      rfl
    · simp only [List.getElem?_map, Option.map_eq_some_iff] at hi
      obtain ⟨_, ⟨j, hj, rfl⟩, rfl⟩ := hi
      have hi' := List.getElem?_eq_some_iff.1 hj
      obtain ⟨hlt, rfl⟩ := hi'
      simp at hlt ⊢
      exact hcell i (by omega)
theorem of_ints {k : IntKind} (ht : P.underlying t = some (.slice e)) (he : P.underlying e = some (.int k)) (hc : P.cellsOf e = 1) (h : DataW.Trod enc P W 0 (fun _ => true) true t (.slice a0 len0 cap0) d p) :
    ∃ l : List Int, SliceIs W (.slice a0 len0 cap0) 1 (l.map (.int k)) ∧ ∀ n ∈ l, (Lit.int k n).wf = true := by
  obtain ⟨fuel, hf⟩ := h
  rcases open_ints ht he hc hf with ⟨hcs, _⟩ | ⟨a, len, cap, zs, hcs, _, hl, hm, hz, _, hcell, hw⟩
  · refine ⟨[], .inl ⟨?_, rfl⟩, by simp⟩
    simp [Value.cells] at hcs
    obtain ⟨rfl, rfl, rfl⟩ := hcs
    rfl
  · simp at hz
    refine ⟨zs.take len, .inr ⟨a, len, cap, ?_, hl, hm, by simp; omega, fun i u hi => ?_⟩, fun n hn => hw n (List.mem_of_mem_take hn)⟩
    · simp [Value.cells] at hcs
      obtain ⟨rfl, rfl, rfl⟩ := hcs
      rfl
    · simp only [List.getElem?_map, Option.map_eq_some_iff] at hi
      obtain ⟨n, hn, rfl⟩ := hi
      obtain ⟨h1, rfl⟩ := List.getElem?_eq_some_iff.1 hn
      simp at h1
      rw [hcell i (by omega)]
      simp [List.getD, show i < zs.length by omega]
theorem of_strings (ht : P.underlying t = some (.slice e)) (he : P.underlying e = some .string) (hc : P.cellsOf e = 1) (h : DataW.Trod enc P W 0 (fun _ => true) true t (.slice a0 len0 cap0) d p) :
    ∃ l : List ByteArray, SliceIs W (.slice a0 len0 cap0) 1 (l.map .string) ∧ ∀ s ∈ l, s.size ≤ maxLen := by
  obtain ⟨fuel, hf⟩ := h
  rcases open_strings ht he hc hf with ⟨hcs, _⟩ | ⟨a, len, cap, zs, hcs, _, hl, hm, hz, _, hcell, hw⟩
  · refine ⟨[], .inl ⟨?_, rfl⟩, by simp⟩
    simp [Value.cells] at hcs
    obtain ⟨rfl, rfl, rfl⟩ := hcs
    rfl
  · simp at hz
    refine ⟨zs.take len, .inr ⟨a, len, cap, ?_, hl, hm, by simp; omega, fun i u hi => ?_⟩, fun n hn => hw n (List.mem_of_mem_take hn)⟩
    · simp [Value.cells] at hcs
      obtain ⟨rfl, rfl, rfl⟩ := hcs
      rfl
    · simp only [List.getElem?_map, Option.map_eq_some_iff] at hi
      obtain ⟨n, hn, rfl⟩ := hi
      obtain ⟨h1, rfl⟩ := List.getElem?_eq_some_iff.1 hn
      simp at h1
      rw [hcell i (by omega)]
      simp [List.getD, show i < zs.length by omega]
end
end Go.Proofs.YtdpoalbbcmkceaaGreatDoor
