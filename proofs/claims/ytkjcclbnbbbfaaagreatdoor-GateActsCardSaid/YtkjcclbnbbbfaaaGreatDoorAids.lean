/- Small aids: cells of a row, rows of the call's own as slices. -/
import Derived.Test.YtkjcclbnbbbfaaaGreatDoorArgs
import Derived.Test.YtkjcclbnbbbfaaaGreatDoorMem
namespace Go.Proofs.YtkjcclbnbbbfaaaGreatDoor
open Go.RowKit
set_option linter.unusedVariables false

theorem below_grownBy {w w' : World} (h : Below w.heap.size w w') : w.grownBy w' none := ⟨h.os, h.tape, h.output, h.size, fun k hk _ => h.block k hk⟩
theorem owns_below {w w' : World} {base : Nat} {e : TypeId} {size : Nat} {v : Value} {n : Nat} {xs : List Value} (h : w.ownsRow base e size v n xs) (hb : Below w.heap.size w w') : w'.ownsRow base e size v n xs :=
  h.kept (below_grownBy hb) (by
    rcases v.ownBlock with _ | j
    · exact .inl rfl
    · exact .inr (by simp))
theorem cell_at {w : World} {a : Addr} {i j : Nat} {v : Value} (h : w.cell? (a.add (i + (j + 1))) = some v) : w.cell? ⟨(a.add i).block, (a.add i).off + (j + 1), none⟩ = some v := by
  rw [← Addr.add_succ', Addr.add_add]; exact h
/-- a row of the call's own is such a slice -/
theorem SliceIs.ownedK {W : World} {base k : Nat} {e : TypeId} {v : Value} {n : Nat} {vals : List Value} (h : W.ownsRow base e k v n vals) : SliceIs W v k vals := by
  have h0 := h
  obtain ⟨h1, h2⟩ := h
  rcases h2 with ⟨rfl, h2⟩ | ⟨g, cap, cur, rfl, hg, hh, h3, h4, h5⟩
  · exact .inl ⟨rfl, List.eq_nil_of_length_eq_zero (by subst h2; simpa using h1)⟩
  · refine .inr ⟨⟨g, 0, none⟩, n, cap, rfl, h3, h4, h1, fun i u hi => ?_⟩
    exact h0.cells (g := g) rfl i u hi
theorem owns_slice {W : World} {base k : Nat} {e : TypeId} {v : Value} {n : Nat} {vals : List Value} (h : W.ownsRow base e k v n vals) : ∃ A cap, v = .slice A n cap := by
  obtain ⟨h1, h2⟩ := h
  rcases h2 with ⟨rfl, rfl⟩ | ⟨g, cap, cur, rfl, _⟩
  · exact ⟨none, 0, rfl⟩
  · exact ⟨_, cap, rfl⟩
theorem owns_mono' {w : World} {base base' : Nat} {e : TypeId} {size : Nat} {v : Value} {n : Nat} {xs : List Value} (h : w.ownsRow base e size v n xs) (hb : base' ≤ base) : w.ownsRow base' e size v n xs := by
  obtain ⟨h1, h2⟩ := h
  refine ⟨h1, ?_⟩
  rcases h2 with h2 | ⟨g, cap, cur, hv, hg, r⟩
  · exact .inl h2
  · exact .inr ⟨g, cap, cur, hv, by omega, r⟩
theorem grown_undrew {w w' : World} {r : Option Nat} (h : w.drew.grownBy w' r) : w.grownBy w' r := ⟨h.os, h.tape, h.output, h.size, h.block⟩
end Go.Proofs.YtkjcclbnbbbfaaaGreatDoor
