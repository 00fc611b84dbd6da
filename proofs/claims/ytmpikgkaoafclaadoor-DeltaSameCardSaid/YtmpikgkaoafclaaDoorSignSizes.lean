/- SignSizes: a size of blocks is a power of 2; a file's blocks are as many as that makes. -/
import Derived.Test.YtmpikgkaoafclaaDoorSign
import Derived.Test.YtmpikgkaoafclaaDoorLaid
namespace Go.Proofs.YtmpikgkaoafclaaDoor
open Go.RowKit

theorem signed_data : blks 3 [97, 98, 99, 100, 101] = [⟨3, 38404390, csum [97, 98, 99]⟩, blk [100, 101]] ∧ blk [100, 101] = ⟨2, ws [100, 101], csum [100, 101]⟩ := by
  refine ⟨?_, by rw [blk_is]; rfl⟩
  unfold blks
  have h : cntOf 3 [(97 : UInt8), 98, 99, 100, 101].length = 2 := cnt_is (by simp) (by simp)
  rw [h, blksN_succ, blksN_succ, blksN_zero]
  simp only [List.nil_append, List.cons_append, List.drop, List.take, List.cons.injEq, and_true]
  rw [blk_is]
  have : ws [97, 98, 99] = 38404390 := by decide +kernel
  rw [this]
  rfl
set_option maxRecDepth 100000 in
set_option maxHeartbeats 1600000 in
theorem signed_ok (w : World) : Calls Tryd.prog 21 #[] w fun e w' => e = .returned (.bool true) ∧ Below w.heap.size w w' := by
  have OF := of_yes ⟨#[97, 98, 99, 100, 101]⟩ 3 w (by decide) (by decide) (by decide)
  simp only [signed_data.1] at OF
  rw [signed_data.2] at OF
  have HOF := Lib.hid OF
  clear OF
  go_enter Tryd.func21, Tryd.ntmps21
  go_wp2_with fail
  refine HOF.out.mono ?_
  rintro e w1 ⟨v, rfl, hown, b1⟩
  have hsl := SliceIs.ownedK hown
  obtain ⟨g, cap, hv, _, _, _, _, hc, _⟩ := owns_open hown (by decide)
  rw [hv] at hsl ⊢
  have h0 := hc 0 (.int .i64 3) (by rw [bcells_cons]; rfl)
  have h1 := hc 1 (.int .i64 38404390) (by rw [bcells_cons]; rfl)
  have h3 := hc 3 (.int .i64 2) (by rw [bcells_cons, bcells_cons]; rfl)
  have F := find_any _ _ _ _ ⟨#[100, 101]⟩ w1 (by decide) hsl
  have hF : findI [⟨3, 38404390, csum [97, 98, 99]⟩, ⟨2, ws [100, 101], csum [100, 101]⟩] (blk [100, 101]) = 1 := by
    rw [signed_data.2]; simp [findI, findB_cons]
  simp only [] at F
  rw [hF] at F
  have HF := Lib.hid F
  clear F hF hsl hc hown hv
  go_wp2_with (go_at_call 34; refine HF.out.mono ?_; rintro e w2 ⟨rfl, b2⟩)
  go_ret
  exact ⟨rfl, below_trans' b1 b2⟩

theorem sizeN_rem (b : Int) : (64 : Int) % (sizeN b : Int) = 0 := by
  rcases sizeN_is b with h | h | h | h | h <;> rw [h] <;> rfl

set_option maxRecDepth 100000 in
set_option maxHeartbeats 1600000 in
theorem signSizes_walk (E : Nat → Addr) (a0 : Int) (a1 : Int) (a2 : ByteArray) (w : World) (_ : (Lit.int .i64 a0).wf = true) (_ : (Lit.int .i64 a1).wf = true) (_ : a2.size ≤ maxLen)
    (_ : ∀ c ∈ [2], Has E w c ∧ Sent w (E c)) (_ : ∀ c ∈ [2], ∀ c' ∈ [2], c ≠ c' → E c ≠ E c') :
    Calls Tryd.prog 5 #[.int .i64 a0, .int .i64 a1, .string a2] w fun e w' => e = .returned (.bool true) ∧ Below w.heap.size w w' := by
  by_cases hs : a2.size ≤ 400
  · have hsI : ¬ (400 : Int) < a2.size := by omega
    have hx := sizeN_is a0
    have hy := sizeN_is a1
    have hz := sizeN_is (a2.size : Int)
    have hm := sizeN_mono a0 a1
    have hr := sizeN_rem a0
    have S0 := Lib.hid (size_any a0)
    have S1 := Lib.hid (size_any a1)
    have S2 := Lib.hid (size_any (a2.size : Int))
    obtain ⟨x, ex⟩ : ∃ x, x = sizeN a0 := ⟨_, rfl⟩
    obtain ⟨y, ey⟩ : ∃ y, y = sizeN a1 := ⟨_, rfl⟩
    obtain ⟨z, ez⟩ : ∃ z, z = sizeN (a2.size : Int) := ⟨_, rfl⟩
    rw [← ex] at hx hm hr S0
    rw [← ey] at hy hm S1
    rw [← ez] at hz S2
    clear ex ey ez
    have hx1 : 4 ≤ x ∧ x ≤ 64 := by omega
    have hz1 : 1 ≤ z ∧ z ≤ 64 := by omega
    obtain ⟨x1, x2⟩ := hx1
    obtain ⟨z1, z2⟩ := hz1
    have x3 : ¬ (x : Int) < 4 := by omega
    have x4 : ¬ (64 : Int) < x := by omega
    have hrb : ((64 : Int) % (x : Int) != 0) = false := by simp [hr]
    have x0 : ¬ x = 0 := by omega
    have z0 : ¬ z = 0 := by omega
    have OF := Lib.hid (fun w => of_yes a2 z w (by omega) z1 z2)
    have HM := Lib.hid hm
    clear hx hy hz hm hr
    have hc0 : ((cntOf z a2.size : Nat) : Int) = ((a2.size : Int) + z - 1) / z := by
      unfold cntOf
      have : ((a2.size + z - 1 : Nat) : Int) = (a2.size : Int) + z - 1 := by omega
      rw [Int.natCast_ediv, this]
    have HC0 := Lib.hid hc0
    clear hc0
    have hno : a0 ≤ a1 ∧ ¬ (y : Int) < x ∨ ¬ a0 ≤ a1 := by
      by_cases hle : a0 ≤ a1
      · exact .inl ⟨hle, by have := HM.out hle; omega⟩
      · exact .inr hle
    rcases hno with ⟨hle, x5⟩ | hle
    all_goals
      go_enter Tryd.func5, Tryd.ntmps5
      go_wp2_with (go_at_call 21; refine (signed_ok w).mono ?_; rintro e w0 ⟨rfl, b0⟩)
      refine (S0.out _).mono ?_
      rintro e w1 ⟨rfl, rfl⟩
      go_wp2_with fail
      refine (S1.out _).mono ?_
      rintro e w1 ⟨rfl, rfl⟩
      go_wp2_with fail
      refine (S2.out _).mono ?_
      rintro e w1 ⟨rfl, rfl⟩
      go_wp2_with fail
      refine (OF.out _).mono ?_
      rintro e w1 ⟨v, rfl, hown, b1⟩
      obtain ⟨A, cap, hv⟩ := owns_slice hown
      rw [blks_len] at hv
      have e3 : a2.data.toList.length = a2.size := by simp
      rw [e3] at hv
      rw [hv]
      clear hown hv e3
      go_wp2_with fail
      go_ret
      refine ⟨ret_bool ?_, below_trans' b0 b1⟩
      rw [HC0.out]
      simp
  · have hsI : (400 : Int) < a2.size := by omega
    go_enter Tryd.func5, Tryd.ntmps5
    go_wp2_with (go_at_call 21; refine (signed_ok w).mono ?_; rintro e w0 ⟨rfl, b0⟩)
    go_ret
    exact ⟨rfl, b0⟩
end Go.Proofs.YtmpikgkaoafclaaDoor
