/- The document's Byte. -/
import Derived.Test.YtkjcclbnbbbfaaaGreatDoorErr
import Derived.Handy
import Derived.Test.YtkjcclbnbbbfaaaGreatDoorTapPlain
namespace Go.Proofs.YtkjcclbnbbbfaaaGreatDoor
open Go.RowKit
set_option linter.unusedVariables false

theorem rbyte_any (c : UInt8) (w : World) : Calls Tryz.prog 134 #[.int .i64 c.toNat] w fun e w' => e = .returned (.string (bs [c])) ∧ Below w.heap.size w w' := by
  have hc := c.toNat_lt
  have CV := fun (w' : World) => conv_one (P := Tryz.prog) w' 124 9 5 Tryz.underlying124 Tryz.underlying5 Tryz.underlying9 w.heap.size 1 c
  have HCV := Lib.hid (CV (w.alloc (.cells #[.int .u8 c.toNat] 5)) (by simp))
  have hcv := HCV.out
  have HB := Lib.hid (show bs [c] = ⟨#[c]⟩ by unfold bs; rfl)
  have x1 : (c.toNat : Int) < 256 := by omega
  clear CV HCV
  go_enter Tryz.func134, Tryz.ntmps134
  go_wp2_with fail
  go_ret
  exact ⟨by rw [HB.out]; rfl, (Below.refl _ w).alloc (Nat.le_refl _) _⟩
theorem bs_add (a b : List UInt8) : bs a ++ bs b = bs (a ++ b) := eq_bs (by simp)
end Go.Proofs.YtkjcclbnbbbfaaaGreatDoor
/- The document's Decimal (a number from 0), and Record. -/
namespace Go.Proofs.YtkjcclbnbbbfaaaGreatDoor
open Go.RowKit
set_option linter.unusedVariables false

theorem rbyte_of (c : UInt8) (v : Int) (hv : v = c.toNat) (w : World) : Calls Tryz.prog 134 #[.int .i64 v] w fun e w' => e = .returned (.string (bs [c])) ∧ Below w.heap.size w w' := by
  subst hv; exact rbyte_any c w
theorem dig_at {k : Nat} (h : k < 10) : (48 : Int) + k = ((UInt8.ofNat (48 + k)).toNat : Int) := by
  rw [UInt8.toNat_ofNat']; omega
theorem tdiv_neg10 (n : Nat) : (-(n : Int)).tdiv 10 = -((n / 10 : Nat) : Int) := by
  rw [Int.neg_tdiv]; rfl
theorem tmod_neg10 (n : Nat) : (-(n : Int)).tmod 10 = -((n % 10 : Nat) : Int) := by
  rw [Int.neg_tmod]; rfl
set_option maxRecDepth 100000 in
set_option maxHeartbeats 1600000 in
theorem rbelow_any (n : Nat) : ∀ (z : Int) (w : World), z = -(n : Int) → n ≤ 1000000000000000000 → Calls Tryz.prog 88 #[.int .i64 z] w fun e w' => e = .returned (.string (bs (Lib.decDigits n))) ∧ Below w.heap.size w w' := by
  induction n using Nat.strongRecOn with
  | _ n ih =>
    intro z w hz hn
    by_cases h9 : n < 10
    · have RB := Lib.hid (fun w' => rbyte_of (UInt8.ofNat (48 + n)) (48 - z) (by rw [← dig_at h9]; omega) w')
      have HD := Lib.hid (dec_small h9)
      have hI : (-10 : Int) < z := by omega
      have hI2 : z ≤ 0 := by omega
      clear ih hz hn h9
      generalize UInt8.ofNat (48 + n) = c at *
      go_enter Tryz.func88, Tryz.ntmps88
      go_wp2_with fail
      refine (RB.out _).mono ?_
      rintro e w1 ⟨rfl, b1⟩
      go_wp2_with fail
      go_ret
      exact ⟨by rw [HD.out]; rfl, b1⟩
    · have hI : ¬ (-10 : Int) < z := by omega
      have hlo : -1000000000000000000 ≤ z := by omega
      have hI2 : z ≤ -10 := by omega
      have hd := dec_big h9
      have h10 : n % 10 < 10 := by omega
      obtain ⟨q, hq⟩ : ∃ q, q = z.tdiv 10 := ⟨_, rfl⟩
      obtain ⟨r, hr⟩ : ∃ r, r = z.tmod 10 := ⟨_, rfl⟩
      have hq2 : q = -((n / 10 : Nat) : Int) := by rw [hq, hz]; exact tdiv_neg10 n
      have hr2 : r = -((n % 10 : Nat) : Int) := by rw [hr, hz]; exact tmod_neg10 n
      have BL := Lib.hid (fun w' => ih (n / 10) (by omega) q w' hq2 (by omega))
      have RB := Lib.hid (fun w' => rbyte_of (UInt8.ofNat (48 + n % 10)) (48 - r) (by rw [← dig_at h10]; omega) w')
      have hr3 : -9 ≤ r ∧ r ≤ 0 := by omega
      obtain ⟨hr4, hr5⟩ := hr3
      have hw1 : IntKind.i64.wrap q = q := IntWalk.i64_in _ (by omega)
      have hw2 : IntKind.i64.wrap r = r := IntWalk.i64_in _ (by omega)
      have hw3 : IntKind.i64.wrap (48 - r) = 48 - r := IntWalk.i64_in _ (by omega)
      have hq' := hq.symm
      have hr' := hr.symm
      have HD := Lib.hid hd
      have hl1 := dec_len_le (n := n / 10) (k := 18) (by omega)
      have hcat : ¬ 9223372036854775807 < (Lib.decDigits (n / 10)).length + 1 := by omega
      clear ih hz hn h9 hd hq2 hr2 h10 hq hr hl1
      generalize Lib.decDigits (n / 10) = dl at *
      generalize UInt8.ofNat (48 + n % 10) = c at *
      go_enter Tryz.func88, Tryz.ntmps88
      go_wp2_with fail
      refine (BL.out _).mono ?_
      rintro e w1 ⟨rfl, b1⟩
      go_wp2_with fail
      refine (RB.out _).mono ?_
      rintro e w2 ⟨rfl, b2⟩
      have b12 := below_trans' b1 b2
      go_wp2_with fail
      go_ret
      exact ⟨by rw [HD.out]; first | rfl | (rw [bs_add]; rfl), b12⟩
theorem rdecimal_any (n : Nat) (w : World) (h : n ≤ 1000000000000000000) : Calls Tryz.prog 58 #[.int .i64 n] w fun e w' => e = .returned (.string (bs (Lib.decDigits n))) ∧ Below w.heap.size w w' := by
  have BL := Lib.hid (fun w' => rbelow_any n (-(n : Int)) w' rfl h)
  have hI : ¬ (n : Int) < 0 := by omega
  have hw1 : IntKind.i64.wrap (-(n : Int)) = -(n : Int) := IntWalk.i64_in _ (by omega)
  go_enter Tryz.func58, Tryz.ntmps58
  go_wp2_with fail
  refine (BL.out _).mono ?_
  rintro e w1 ⟨rfl, b1⟩
  go_wp2_with fail
  go_ret
  exact ⟨rfl, b1⟩
end Go.Proofs.YtkjcclbnbbbfaaaGreatDoor
