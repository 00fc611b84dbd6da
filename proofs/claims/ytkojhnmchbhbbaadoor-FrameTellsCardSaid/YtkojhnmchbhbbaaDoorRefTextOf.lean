import Derived.Test.YtkojhnmchbhbbaaDoorRefNumOf
namespace Go.Proofs.YtkojhnmchbhbbaaDoor
open Go.RowKit
set_option linter.unusedVariables false

/-- the place behind a text -/
def tAt (len at' : Nat) (l : List UInt8) : Nat := if tC l = 0 then len - (tR l).length else at'
theorem tAt_bad {len at' : Nat} {l : List UInt8} (h : tC l ≠ 0) : tAt len at' l = at' := by simp [tAt, h]
theorem t_err1 {l : List UInt8} (h : gC l ≠ 0) : tC l = gC l ∧ tT l = [] ∧ tC l ≠ 0 := by
  have e : tC l = gC l := by simp [tC, h]
  refine ⟨e, ?_, by rw [e]; exact h⟩
  unfold tT; rw [if_neg (by rw [e]; exact h)]
theorem t_err2 {l : List UInt8} (h : gC l = 0) (h1 : 20000 < gN l) : tC l = 2 ∧ tT l = [] := by
  have e : tC l = 2 := by simp [tC, h, h1]
  refine ⟨e, ?_⟩
  unfold tT; rw [if_neg (by rw [e]; decide)]
theorem t_err3 {l : List UInt8} (h : gC l = 0) (h1 : ¬ 20000 < gN l) (h2 : (gR l).length < gN l) : tC l = 1 ∧ tT l = [] := by
  have e : tC l = 1 := by unfold tC; rw [if_neg (by simp [h]), if_neg h1, if_pos h2]
  refine ⟨e, ?_⟩
  unfold tT; rw [if_neg (by rw [e]; decide)]
theorem t_fine {l : List UInt8} (h : gC l = 0) (h1 : ¬ 20000 < gN l) (h2 : ¬ (gR l).length < gN l) : tC l = 0 ∧ tT l = (gR l).take (gN l) ∧ tR l = (gR l).drop (gN l) := by
  have e : tC l = 0 := by unfold tC; rw [if_neg (by simp [h]), if_neg h1, if_neg h2]
  refine ⟨e, ?_, ?_⟩
  · unfold tT; rw [if_pos e]
  · unfold tR; rw [if_pos e]
theorem sub_list (s : ByteArray) (i k e : Nat) (hk : e = i + k) : s.extract i e = bs ((s.data.toList.drop i).take k) := by
  apply eq_bs
  subst hk
  simp
attribute [irreducible] tAt

set_option maxRecDepth 100000 in
set_option maxHeartbeats 3200000 in
theorem rtextof_any (s : ByteArray) (p : Nat) (w : World) (hs : s.size ≤ 1000000000) (hp : p ≤ s.size) :
    Calls Tryd.prog 59 #[.string s, .int .i64 p] w fun e w' => e = .returned (.tuple #[.string (bs (tT (s.data.toList.drop p))), .int .i64 (tAt s.size p (s.data.toList.drop p)), .int .i64 (tC (s.data.toList.drop p))]) ∧ w = w' := by
  have NO := rnumof_any s p w hs hp
  have hsl : s.data.toList.length = s.size := by simp
  by_cases h0 : gC (s.data.toList.drop p) = 0
  · obtain ⟨d1, d2, d3⟩ := nAt_drop (s := s.data.toList) (at' := p) h0
    rw [hsl] at d1 d2 d3
    have d4 : (gR (s.data.toList.drop p)).length = s.size - nAt s.size p (s.data.toList.drop p) := by rw [← d1]; simp
    have SUB : ∀ n : Nat, s.extract (nAt s.size p (s.data.toList.drop p)) (nAt s.size p (s.data.toList.drop p) + n) = bs ((gR (s.data.toList.drop p)).take n) := by
      intro n; rw [sub_list s _ n _ rfl, d1]
    clear d1 d3 hsl
    generalize s.data.toList.drop p = L at *
    generalize nAt s.size p L = K at *
    have hcI : ¬ (0 : Int) < gC L := by omega
    have hgn := gN_le L
    by_cases h1 : 20000 < gN L
    · have Z := Lib.hid (t_err2 h0 h1)
      have Z2 := Lib.hid (tAt_bad (len := s.size) (at' := p) (l := L) (by rw [Z.out.1]; decide))
      have h1I : (20000 : Int) < gN L := by omega
      have HNO := Lib.hid NO
      clear NO SUB h0 d4
      go_enter Tryd.func59, Tryd.ntmps59
      go_wp2_with fail
      refine HNO.out.mono ?_
      rintro e w1 ⟨rfl, rfl⟩
      go_wp2_with fail
      go_ret3
      exact ⟨ret3 (by rw [Z.out.2, bs_nil]; rfl) (by rw [Z2.out]; rfl) (by rw [Z.out.1]; rfl), rfl⟩
    · have h1I : ¬ (20000 : Int) < gN L := by omega
      by_cases h2 : (gR L).length < gN L
      · have Z := Lib.hid (t_err3 h0 h1 h2)
        have Z2 := Lib.hid (tAt_bad (len := s.size) (at' := p) (l := L) (by rw [Z.out.1]; decide))
        have h2I : (s.size : Int) - (K : Int) < gN L := by omega
        have HNO := Lib.hid NO
        clear NO SUB h0 d4 h2
        go_enter Tryd.func59, Tryd.ntmps59
        go_wp2_with fail
        refine HNO.out.mono ?_
        rintro e w1 ⟨rfl, rfl⟩
        go_wp2_with fail
        go_ret3
        exact ⟨ret3 (by rw [Z.out.2, bs_nil]; rfl) (by rw [Z2.out]; rfl) (by rw [Z.out.1]; rfl), rfl⟩
      · have Z := Lib.hid (t_fine h0 h1 h2)
        have Z2 : Hid (tAt s.size p L = K + gN L) := by
          show _ = _
          unfold tAt
          rw [if_pos Z.out.1, Z.out.2.2, List.length_drop, d4]; omega
        have h2I : ¬ (s.size : Int) - (K : Int) < gN L := by omega
        have SS := Lib.hid (SUB (gN L))
        rw [← Z.out.2.1] at SS
        have x1 : K + gN L ≤ s.size := by omega
        have HNO := Lib.hid NO
        clear NO SUB h0 d4 h2
        generalize gN L = N at *
        have x2 : ((K : Int) + (N : Int)).toNat = K + N := by omega
        have x3 : (K : Int).toNat = K := by omega
        have x4 : (0 : Int) ≤ K := by omega
        have x5 : (K : Int) ≤ (K : Int) + (N : Int) := by omega
        have x6 : (K : Int) + (N : Int) ≤ s.size := by omega
        go_enter Tryd.func59, Tryd.ntmps59
        go_wp2_with fail
        refine HNO.out.mono ?_
        rintro e w1 ⟨rfl, rfl⟩
        go_wp2_with fail
        go_ret3
        exact ⟨ret3 (by rw [← SS.out]; rfl) (by rw [Z2.out]; go_num) (by rw [Z.out.1]; rfl), rfl⟩
  · have Z := Lib.hid (t_err1 h0)
    have Z2 := Lib.hid (tAt_bad (len := s.size) (at' := p) Z.out.2.2)
    rw [Z.out.1, Z.out.2.1, Z2.out]
    have hcI : (0 : Int) < gC (s.data.toList.drop p) := by omega
    have HNO := Lib.hid NO
    clear NO
    generalize s.data.toList.drop p = L at *
    go_enter Tryd.func59, Tryd.ntmps59
    go_wp2_with fail
    refine HNO.out.mono ?_
    rintro e w1 ⟨rfl, rfl⟩
    go_wp2_with fail
    go_ret3
    exact ⟨ret3 (by rw [bs_nil]; rfl) (by first | rfl | trivial) (by first | rfl | trivial), rfl⟩
end Go.Proofs.YtkojhnmchbhbbaaDoor
