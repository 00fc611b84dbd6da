/- PatchParts: ops in two parts put together what they do at once; data costs what it is. -/
import Derived.Test.YtphigoclkkgpoaaDoorPatchLaws
import Derived.Test.YtphigoclkkgpoaaDoorLaid
import Derived.Deep.RegionHeld3
namespace Go.Proofs.YtphigoclkkgpoaaDoor
open Go.RowKit
set_option linter.unusedVariables false

theorem patched_data : appl [97, 98, 99, 100, 101, 102, 103] 3 [⟨kCopy, 1, 2, []⟩, ⟨kData, 0, 0, [120]⟩] = ((0, -1), [100, 101, 102, 103, 120]) := by decide +kernel
theorem lit_slice {w : World} {b n : Nat} {cs : Array Value} {t : TypeId} {vals : List Value} (k : Nat) (h : w.heap[b]? = some (.cells cs t (0, 0))) (hc : cs.toList = vals) (hn : vals.length = n * k) (hm : n ≤ 1000000) : SliceIs w (.slice (some ⟨b, 0, none⟩) n n) k vals := by
  refine .inr ⟨⟨b, 0, none⟩, n, n, rfl, Nat.le_refl _, by unfold maxLen; omega, hn, fun i u hu => ?_⟩
  subst hc
  have : w.cell? ⟨b, i, none⟩ = some u := by simp only [World.cell?, h]; simpa using hu
  have e : (⟨b, 0, none⟩ : Addr).add i = ⟨b, i, none⟩ := by simp [Addr.add]; omega
  rw [e]; exact this
set_option maxRecDepth 100000 in
set_option maxHeartbeats 1600000 in
theorem patched_ok (E : Nat → Addr) (w : World) (h2 : Has E w 2) (h3 : Has E w 3) (h4 : Has E w 4) (h6 : Has E w 6) (h8 : Has E w 8) : Calls Tryd.prog 9 #[] w fun e w' => e = .returned (.bool true) ∧ Below w.heap.size w w' := by
  have AP := fun (w' : World) s0 n0 c0 hb hl => apply_any E [97, 98, 99, 100, 101, 102, 103] 3 s0 n0 c0 [⟨kCopy, 1, 2, []⟩, ⟨kData, 0, 0, [120]⟩] w' hl (h2.below hb) (h3.below hb) (h4.below hb) (h6.below hb) (h8.below hb)
  rw [patched_data] at AP
  have b7 : bs [97, 98, 99, 100, 101, 102, 103] = ⟨#[97, 98, 99, 100, 101, 102, 103]⟩ := by unfold bs; rfl
  have b5 : bs [100, 101, 102, 103, 120] = ⟨#[100, 101, 102, 103, 120]⟩ := by unfold bs; rfl
  simp only [] at AP
  rw [b7, b5] at AP
  have HAP := Lib.hid AP
  clear AP b7 b5 h2 h3 h4 h6 h8
  go_enter Tryd.func9, Tryd.ntmps9
  go_wp2_with fail
  refine (HAP.out _ _ _ _ ?hb ?hl).mono ?_
  case hb => exact (Below.refl _ w).alloc (Nat.le_refl _) _
  case hl => exact lit_slice 4 (heap_alloc_new _ _) (by simp only [ocells_cons, ocells_nil, POp.vals, bs_kCopy, bs_kData]; rw [bs_nil]; unfold bs; rfl) (by rw [ocells_len]; rfl) (by decide)
  rintro e w1 ⟨v, rfl, fe, b1⟩
  rw [fe.zero]
  clear fe HAP
  go_wp2_with fail
  go_ret
  exact ⟨rfl, below_trans' (below_alloc' _ _) b1⟩

/-- a slice cut in two -/
theorem ops_cut {w : World} {s : Option Addr} {n c : Nat} {l : List POp} (h : SliceIs w (.slice s n c) 4 (ocells l)) (k : Nat) (hk : k ≤ n) :
    ∃ sE nE cE sH nH cH, (∀ w' : World, (Instr.slice 28 (.slice s n c) none (some (.int .i64 k)) none).run Tryd.prog w' = .ok (.slice sE nE cE) w') ∧
      (∀ w' : World, (Instr.slice 28 (.slice s n c) (some (.int .i64 k)) none none).run Tryd.prog w' = .ok (.slice sH nH cH) w') ∧
      SliceIs w (.slice sE nE cE) 4 (ocells (l.take k)) ∧ SliceIs w (.slice sH nH cH) 4 (ocells (l.drop k)) ∧ (l.take k).length = nE ∧ (l.drop k).length = nH := by
  obtain ⟨hn, hc0, hc1⟩ := ops_len h
  have hu : Tryd.prog.underlying 28 = some (.slice (Tryd.prog.elem 28)) := by kernel_rfl
  have hz : ∀ w' : World, (sizeOf (Tryd.prog.elem 28)).run Tryd.prog w' = .ok 4 w' := fun w' => by kernel_rfl
  have r1 : ∀ w' : World, (Instr.slice 28 (.slice s n c) none (some (.int .i64 k)) none).run Tryd.prog w' = .ok (.slice s k c) w' := by
    intro w'
    rw [run_slice_h w' 28 s n c hu .i64 k (by omega) (by omega), hz]
    simp only [Result.andThen, sliced]
    rw [show ((k : Int)).toNat = k by omega]
    cases s <;> simp [Addr.add]
  have r2 : ∀ w' : World, (Instr.slice 28 (.slice s n c) (some (.int .i64 k)) none none).run Tryd.prog w' = .ok (.slice (if c = k then s else s.map (·.add (k * 4))) (n - k) (c - k)) w' := by
    intro w'
    rw [run_slice_l w' 28 s n c hu .i64 k (by omega) (by omega), hz]
    simp only [Result.andThen, sliced]
    rw [show ((k : Int)).toNat = k by omega]
  refine ⟨s, k, c, _, n - k, c - k, r1, r2, h.cutEnd k hk, ?_, by simp; omega, by simp; omega⟩
  rcases s with _ | a
  · rcases h with ⟨h1, h2⟩ | ⟨a, len, cap, h1, _⟩
    · injection h1 with _ e2 e3
      subst e2 e3
      have e : l = [] := List.eq_nil_of_length_eq_zero hn
      subst e
      obtain rfl : k = 0 := by omega
      exact .inl ⟨by simp, by simp [ocells_nil]⟩
    · cases h1
  · by_cases e : c = k
    · rw [if_pos e]
      have e1 : n = k := by omega
      subst e1
      have := SliceIs.cutAll h e
      rw [show n - n = 0 by omega, show c - n = 0 by omega]
      exact this
    · rw [if_neg e]
      exact h.cutHead k hk

theorem costN_long {l : List POp} (h : ∀ o ∈ l, o.data.length ≤ 4001) : costN l ≤ l.length * 4001 := by
  induction l with
  | nil => rw [costN_nil]; omega
  | cons o l ih =>
    rw [costN_cons]
    have := ih (fun x hx => h x (by simp [hx]))
    have := h o (by simp)
    simp only [List.length_cons, Nat.add_mul]; omega

end Go.Proofs.YtphigoclkkgpoaaDoor
