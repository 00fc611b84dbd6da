/- A text laid out as bytes, and a text of bytes of which one was stored anew. -/
import Derived.Test.YtkojhnmchbhbbaaDoorLib
import Derived.Laws.IdiomStrings
namespace Go.Proofs.YtkojhnmchbhbbaaDoor
open Go.RowKit

/-- a text's bytes, laid anew -/
theorem convB_text {P : Program} (w : World) (src dst e : TypeId) (s : ByteArray) (hs : P.underlying src = some .string) (hd : P.underlying dst = some (.slice e)) (he : P.underlying e = some (.int .u8)) :
    ∃ (cap : Nat) (o : Obj), (convert src dst (.string s)).run P w = .ok (.slice (some ⟨w.heap.size, 0, none⟩) s.size cap) ((w.alloc o).drew) ∧ s.size ≤ cap ∧
      (∀ i (h : i < s.size), (w.alloc o).cell? ⟨w.heap.size, i, none⟩ = some (.int .u8 s[i].toNat)) ∧ ∀ i, i < s.size → (w.alloc o).frozen? ⟨w.heap.size, i, none⟩ = false := by
  have hcap := grownCap_ge w s.size 0 e
  have hsz : (bytesRow s (grownCap w s.size 0 e)).size = grownCap w s.size 0 e := by
    simp [bytesRow]; show s.size + _ = _; omega
  refine ⟨_, _, run_bytes_of_string w src dst e s hs hd he, hcap, fun i h => ?_, fun i h => ?_⟩
  · simp only [World.cell?]
    rw [heap_alloc_new]
    simp only []
    have : (bytesRow s (grownCap w s.size 0 e))[i]? = some (.int .u8 s[i].toNat) := by
      unfold bytesRow
      rw [Array.getElem?_append_left (by simpa using h)]
      rw [Array.getElem?_map, Array.getElem?_eq_getElem (show i < s.data.size from h)]
      rfl
    simpa using this
  · simp only [World.frozen?]
    rw [heap_alloc_new]
    simp
    omega

/-- the text of bytes of which one was stored anew -/
theorem convB_back {P : Program} (w : World) (src dst e : TypeId) (g cap p : Nat) (s : ByteArray) (y : UInt8) (hs : P.underlying src = some (.slice e)) (he : P.underlying e = some (.int .u8)) (hd : P.underlying dst = some .string) (hp : p < s.size)
    (hc : ∀ i (h : i < s.size), w.cell? ⟨g, i, none⟩ = some (.int .u8 s[i].toNat)) :
    (convert src dst (.slice (some ⟨g, 0, none⟩) s.size cap)).run P ((w.setCell ⟨g, p, none⟩ (.int .u8 y.toNat)).drew) = .ok (.string ⟨(s.data.toList.set p y).toArray⟩) ((w.setCell ⟨g, p, none⟩ (.int .u8 y.toNat)).drew) := by
  have hl : (s.data.toList.set p y).length = s.size := by simp
  have := run_convert_bytes_back (P := P) ((w.setCell ⟨g, p, none⟩ (.int .u8 y.toNat)).drew) src dst e ⟨g, 0, none⟩ cap (s.data.toList.set p y) hs he hd (fun j hj => by
    have hadd : (⟨g, 0, none⟩ : Addr).add j = ⟨g, j, none⟩ := by unfold Addr.add; split <;> simp_all
    rw [hadd]
    show (w.setCell ⟨g, p, none⟩ (.int .u8 y.toNat)).cell? _ = _
    have hj2 : j < s.size := by rw [hl] at hj; exact hj
    by_cases hpj : p = j
    · subst hpj
      rw [World.cell?_setCell_same _ _ _ (hc p hp)]
      simp
    · rw [World.cell?_setCell_other _ _ _ _ (by simp only [ne_eq, Addr.mk.injEq, not_and]; intro _ h; exact absurd h hpj), hc j hj2]
      simp [hpj]
      rfl)
  rwa [hl] at this

end Go.Proofs.YtkojhnmchbhbbaaDoor
