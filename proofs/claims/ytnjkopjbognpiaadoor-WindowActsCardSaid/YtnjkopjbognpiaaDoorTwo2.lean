/- More of the document's box: a list is put; slices are cut. -/
import Derived.Test.YtnjkopjbognpiaaDoorRefSTake
import Derived.Test.YtnjkopjbognpiaaDoorAppIs
namespace Go.Proofs.YtnjkopjbognpiaaDoor
open Go.RowKit
set_option linter.unusedVariables false

section
variable {T : TypeId} {w w1 w2 : World} {base b : Nat} {vN vD vN' vD' : Value} {x x' : Int} {ln ln' : List Int} {ld ld' : List (List UInt8)}
theorem TwoL.putN (h : TwoL T w base b vN vD x ln ld) (ho : w.ownsRow base 3 1 vN' ln'.length (intV ln')) (n1 : vN'.ownBlock ≠ some b) (n2 : ∀ g, vN'.ownBlock = some g → vD.ownBlock ≠ some g) : TwoL T (w.setCell ⟨b, 1, none⟩ vN') base b vN' vD x ln' ld := by
  have hc2 := (Chg.refl w (fun y => y = b)).set ⟨b, 1, none⟩ (.inl rfl) vN'
  exact ⟨by simpa using set_at (k := 1) (u := vN') h.cells, own_other ho hc2 (fun y hy e => n1 (by rw [hy, e])), own_other h.ownD hc2 (fun y hy e => h.neD (by rw [hy, e])), h.lo, n1, h.neD, n2⟩
theorem TwoL.putD (h : TwoL T w base b vN vD x ln ld) (ho : w.ownsRow base 9 1 vD' ld'.length (txtV ld')) (n1 : vD'.ownBlock ≠ some b) (n2 : ∀ g, vN.ownBlock = some g → vD'.ownBlock ≠ some g) : TwoL T (w.setCell ⟨b, 2, none⟩ vD') base b vN vD' x ln ld' := by
  have hc2 := (Chg.refl w (fun y => y = b)).set ⟨b, 2, none⟩ (.inl rfl) vD'
  exact ⟨by simpa using set_at (k := 2) (u := vD') h.cells, own_other h.ownN hc2 (fun y hy e => h.neN (by rw [hy, e])), own_other ho hc2 (fun y hy e => n1 (by rw [hy, e])), h.lo, h.neN, n1, n2⟩
end
theorem add_zero' (a : Addr) : a.add 0 = a := by obtain ⟨b, o, s⟩ := a; unfold Addr.add; cases s <;> rfl
section
variable {P : Program} {w : World} {T : TypeId} {s : Option Addr} {n c : Nat} {xs : List Value}
theorem slice_take1 (hu : P.underlying T = some (.slice (P.elem T))) (hz : ∀ w' : World, (sizeOf (P.elem T)).run P w' = .ok 1 w') (h : SliceIs w (.slice s n c) 1 xs) (k : Nat) (hk : k ≤ n) :
    (∀ w' : World, (Instr.slice T (.slice s n c) none (some (.int .i64 k)) none).run P w' = .ok (.slice s k c) w') ∧ SliceIs w (.slice s k c) 1 (xs.take k) := by
  obtain ⟨s', n', c', e, hn, h1, h2, hg⟩ := h.get
  cases e
  refine ⟨fun w' => ?_, ?_⟩
  · rw [run_slice_h w' T s n c hu .i64 k (by omega) (by omega), hz]
    simp only [Result.andThen, sliced, Int.toNat_natCast, Nat.zero_mul, Nat.sub_zero]
    congr 2
    rcases s with _ | a
    · simp
    · split
      · rfl
      · rw [Option.map_some, add_zero']
  · rcases s with _ | a
    · rcases h with ⟨h, rfl⟩ | ⟨a, _, _, h, _⟩
      · cases h
        obtain rfl : k = 0 := by omega
        exact .inl ⟨rfl, rfl⟩
      · cases h
    · refine .inr ⟨a, k, c, rfl, by omega, h2, by rw [List.length_take]; omega, fun i u hi => ?_⟩
      rw [List.getElem?_take] at hi
      split at hi
      · obtain ⟨a', e, h3⟩ := hg i u hi
        cases e
        exact h3
      · cases hi
theorem slice_drop1 (hu : P.underlying T = some (.slice (P.elem T))) (hz : ∀ w' : World, (sizeOf (P.elem T)).run P w' = .ok 1 w') (h : SliceIs w (.slice s n c) 1 xs) (k : Nat) (hk : k ≤ n) :
    ∃ sH, (∀ w' : World, (Instr.slice T (.slice s n c) (some (.int .i64 k)) none none).run P w' = .ok (.slice sH (n - k) (c - k)) w') ∧ SliceIs w (.slice sH (n - k) (c - k)) 1 (xs.drop k) := by
  obtain ⟨s', n', c', e, hn, h1, h2, hg⟩ := h.get
  cases e
  refine ⟨if c = k then s else s.map (·.add (k * 1)), fun w' => ?_, ?_⟩
  · rw [run_slice_l w' T s n c hu .i64 k (by omega) (by omega), hz]
    simp only [Result.andThen, sliced, Int.toNat_natCast]
  · rcases s with _ | a
    · rcases h with ⟨h, rfl⟩ | ⟨a, _, _, h, _⟩
      · cases h
        obtain rfl : k = 0 := by omega
        exact .inl ⟨by simp, rfl⟩
      · cases h
    · by_cases hck : c = k
      · rw [if_pos hck]
        refine .inr ⟨a, n - k, c - k, rfl, by omega, by unfold maxLen at *; omega, by rw [List.length_drop]; omega, fun i u hi => ?_⟩
        rw [List.getElem?_drop] at hi
        have := (List.getElem?_eq_some_iff.1 hi).1
        omega
      · rw [if_neg hck, Option.map_some]
        refine .inr ⟨_, n - k, c - k, rfl, by omega, by unfold maxLen at *; omega, by rw [List.length_drop]; omega, fun i u hi => ?_⟩
        rw [List.getElem?_drop] at hi
        obtain ⟨a', e, h3⟩ := hg (k + i) u hi
        cases e
        rw [Nat.mul_one, Go.Deep.add_add]
        exact h3
end
end Go.Proofs.YtnjkopjbognpiaaDoor
