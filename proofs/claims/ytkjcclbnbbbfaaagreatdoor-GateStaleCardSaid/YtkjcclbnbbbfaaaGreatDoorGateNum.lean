/- Contract of gate.Number. -/
import Derived.Test.YtkjcclbnbbbfaaaGreatDoorTapOne
namespace Go.Proofs.YtkjcclbnbbbfaaaGreatDoor
open Go.RowKit
set_option linter.unusedVariables false

theorem nm_none_of' {most : Nat} {d : List UInt8} (hm : most ≤ 18) (h : ∀ v, Lib.atoiAll d ≠ .ok v) : nmL most d = none := by
  cases e : nmL most d with
  | none => rfl
  | some n => exact absurd (ok_of_nm hm e).1 (h _)
/-- what gate.Number answers -/
def NumIs (most : Nat) (d : List UInt8) (e : Ending) : Prop := ∃ v : Int, e = .returned (.tuple #[.int .i64 v, .bool (nmL most d).isSome]) ∧ (∀ n, nmL most d = some n → v = n)
set_option maxRecDepth 100000 in
set_option maxHeartbeats 6400000 in
theorem number_any (E : Nat → Addr) (most : Nat) (d : List UInt8) (w : World) (hw : LibW E w) (hm : most ≤ 18) (hd : d.length ≤ 1000000000) :
    Calls Tryz.prog 80 #[.string (bs d), .int .i64 most] w fun e w' => NumIs most d e ∧ Below w.heap.size w w' := by
  have AT := Lib.hid (atoi_any E d w hd hw)
  have IT := Lib.hid (fun (n : Nat) (w' : World) (bl : Below w.heap.size w w') (hn : n ≤ 9223372036854775807) => itoa_any E n w' (hw.below bl) hn)
  have hdz : (bs d).size = d.length := bs_size d
  have HM := Lib.hid hm
  clear hw
  go_enter Tryz.func80, Tryz.ntmps80
  go_wp2_with fail
  refine AT.out.mono ?_
  rintro e w1 ⟨v, er, rfl, b1, hor⟩
  rcases hor with ⟨rfl, hok⟩ | ⟨⟨t, q, rfl⟩, hno⟩
  · have hbd := atoi_bd hok
    have HOK := Lib.hid hok
    clear hok
    by_cases h9 : d.length ≤ most
    · have h9I : decide (d.length ≤ most) = true := by simpa using h9
      have h9J : (d.length : Int) ≤ most := by omega
      by_cases hv : 0 ≤ v
      · obtain ⟨n, rfl⟩ := Int.eq_ofNat_of_zero_le hv
        have IT1 := Lib.hid (IT.out n _ b1 (by omega))
        clear IT AT
        go_wp2_with fail
        refine IT1.out.mono ?_
        rintro e w3 ⟨rfl, b3⟩
        have b03 := below_trans' b1 b3
        clear b3 b1 IT1
        by_cases hd2 : Lib.decDigits n = d
        · have HNM := Lib.hid (nm_of_ok (most := most) h9 hv (by show Lib.itoa (n : Int) = d; rw [Lib.itoa_nonneg]; exact hd2))
          have hq := bsl_eq d
          simp only [hd2]
          go_wp2_with fail
          go_ret2
          exact ⟨⟨n, by rw [HNM.out]; rfl, fun k hk => by rw [HNM.out] at hk; injection hk with hk; omega⟩, b03⟩
        · have HNM := Lib.hid (nm_none_ok HM.out HOK.out (fun h => hd2 (by rw [← Lib.itoa_nonneg]; exact h.2.2)))
          have hq := bsl_ne hd2
          go_wp2_with fail
          go_ret2
          exact ⟨⟨n, by rw [HNM.out]; rfl, fun k hk => by rw [HNM.out] at hk; cases hk⟩, b03⟩
      · have hvI : v < 0 := by omega
        have HNM := Lib.hid (nm_none_ok HM.out HOK.out (fun h => hv h.2.1))
        clear IT AT
        go_wp2_with fail
        go_ret2
        exact ⟨⟨v, by rw [HNM.out]; rfl, fun k hk => by rw [HNM.out] at hk; cases hk⟩, b1⟩
    · have h9I : decide (d.length ≤ most) = false := by simpa using h9
      have h9J : ¬ (d.length : Int) ≤ most := by omega
      have HNM := Lib.hid (nm_none_ok HM.out HOK.out (fun h => h9 h.1))
      clear IT AT
      go_wp2_with fail
      go_ret2
      exact ⟨⟨v, by rw [HNM.out]; rfl, fun k hk => by rw [HNM.out] at hk; cases hk⟩, b1⟩
  · have HNM := Lib.hid (nm_none_of' HM.out hno)
    clear hno IT AT
    go_wp2_with fail
    go_ret2
    exact ⟨⟨v, by rw [HNM.out]; rfl, fun k hk => by rw [HNM.out] at hk; cases hk⟩, b1⟩
end Go.Proofs.YtkjcclbnbbbfaaaGreatDoor
