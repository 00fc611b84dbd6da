/- Contract of tape.one: the record at the beginning of a text. -/
import Derived.Test.YtkjcclbnbbbfaaaGreatDoorTapPlain
import Derived.Test.YtkjcclbnbbbfaaaGreatDoorLibW
import Derived.Test.YtkjcclbnbbbfaaaGreatDoorAids
namespace Go.Proofs.YtkjcclbnbbbfaaaGreatDoor
open Go.RowKit
set_option linter.unusedVariables false

theorem atoi_any (E : Nat → Addr) (d : List UInt8) (w : World) (hd : d.length ≤ 1000000000) (hw : LibW E w) :
    Calls Tryz.prog 119 #[.string (bs d)] w fun e w' => ∃ v er, e = .returned (.tuple #[.int .i64 v, er]) ∧ Below w.heap.size w w' ∧ (er = .nilIface ∧ Lib.atoiAll d = .ok v ∨ (∃ t p, er = .iface t p) ∧ ∀ v, Lib.atoiAll d ≠ .ok v) := by
  by_cases h : ∃ v, Lib.atoiAll d = .ok v
  · obtain ⟨v, hv⟩ := h
    refine (atoi_yes E d v w hd hv).mono ?_
    rintro e w' ⟨rfl, b⟩
    exact ⟨v, _, rfl, b, .inl ⟨rfl, hv⟩⟩
  · have h' : ∀ v, Lib.atoiAll d ≠ .ok v := fun v hv => h ⟨v, hv⟩
    refine (atoi_no E d w hd hw h').mono ?_
    rintro e w' ⟨v, t, p, rfl, b⟩
    exact ⟨v, _, rfl, b, .inr ⟨⟨t, p, rfl⟩, h'⟩⟩
theorem one_cut {b : List UInt8} (h : cutC 58 b = none) : oneL b = none := by unfold oneL; rw [h]
theorem one_num {b : List UInt8} {p : List UInt8 × List UInt8} (h : cutC 58 b = some p) (hn : nmL 9 p.1 = none) : oneL b = none := by unfold oneL; rw [h]; simp only; rw [hn]
theorem one_if {b : List UInt8} {p : List UInt8 × List UInt8} {n : Nat} (h : cutC 58 b = some p) (hn : nmL 9 p.1 = some n) : oneL b = if n ≤ 20000 ∧ n + 2 ≤ p.2.length ∧ (p.2.drop n).take 2 = [10, 46] then some (p.2.take n) else none := by unfold oneL; rw [h]; simp only; rw [hn]
theorem nm_none_of {d : List UInt8} (h : ∀ v, Lib.atoiAll d ≠ .ok v) : nmL 9 d = none := by
  cases e : nmL 9 d with
  | none => rfl
  | some n => exact absurd (ok_of_nm (by decide) e).1 (h _)
theorem nm_none_ok {most : Nat} {d : List UInt8} {v : Int} (hm : most ≤ 18) (ha : Lib.atoiAll d = .ok v) (h : ¬ (d.length ≤ most ∧ 0 ≤ v ∧ Lib.itoa v = d)) : nmL most d = none := by
  cases e : nmL most d with
  | none => rfl
  | some n =>
    obtain ⟨h1, h2, h3⟩ := ok_of_nm hm e
    rw [ha] at h1
    injection h1 with h1
    subst h1
    exact absurd ⟨h2, by omega, h3⟩ h
theorem bsl_ne {a b : List UInt8} (h : a ≠ b) : ((bs a).toList == (bs b).toList) = false := by simp [ByteArray.toList_eq, h]
theorem bsl_eq (a : List UInt8) : ((bs a).toList == (bs a).toList) = true := by simp
/-- the sentence's bound on an Atoi's value -/
theorem atoi_bd {d : List UInt8} {v : Int} (h : Lib.atoiAll d = .ok v) : -9223372036854775808 ≤ v ∧ v ≤ 9223372036854775807 := Lib.atoiAll_bounds h
theorem bs_none : bs ((none : Option (List UInt8)).getD []) = ⟨#[]⟩ := bs_nil
theorem bs_mk58 : (⟨#[58]⟩ : ByteArray).data.toList = [58] := rfl
end Go.Proofs.YtkjcclbnbbbfaaaGreatDoor
/- Contract of gate.Number. -/
namespace Go.Proofs.YtkjcclbnbbbfaaaGreatDoor
open Go.RowKit
set_option linter.unusedVariables false

theorem nm_none_of' {most : Nat} {d : List UInt8} (hm : most ≤ 18) (h : ∀ v, Lib.atoiAll d ≠ .ok v) : nmL most d = none := by
  cases e : nmL most d with
  | none => rfl
  | some n => exact absurd (ok_of_nm hm e).1 (h _)
/-- what gate.Number answers -/
def NumIs (most : Nat) (d : List UInt8) (e : Ending) : Prop := ∃ v : Int, e = .returned (.tuple #[.int .i64 v, .bool (nmL most d).isSome]) ∧ (∀ n, nmL most d = some n → v = n)
set_option maxRecDepth 100000 in
set_option maxHeartbeats 6400000 in
theorem number_any (E : Nat → Addr) (most : Nat) (d : List UInt8) (w : World) (hw : LibW E w) (hm : most ≤ 18) (hd : d.length ≤ 1000000000) :
    Calls Tryz.prog 80 #[.string (bs d), .int .i64 most] w fun e w' => NumIs most d e ∧ Below w.heap.size w w' := by
  have AT := Lib.hid (atoi_any E d w hd hw)
  have IT := Lib.hid (fun (n : Nat) (w' : World) (bl : Below w.heap.size w w') (hn : n ≤ 9223372036854775807) => itoa_any E n w' (hw.below bl) hn)
  have hdz : (bs d).size = d.length := bs_size d
  have HM := Lib.hid hm
  clear hw
  go_enter Tryz.func80, Tryz.ntmps80
  go_wp2_with fail
  refine AT.out.mono ?_
  rintro e w1 ⟨v, er, rfl, b1, hor⟩
  rcases hor with ⟨rfl, hok⟩ | ⟨⟨t, q, rfl⟩, hno⟩
  · have hbd := atoi_bd hok
    have HOK := Lib.hid hok
    clear hok
    by_cases h9 : d.length ≤ most
    · have h9I : decide (d.length ≤ most) = true := by simpa using h9
      have h9J : (d.length : Int) ≤ most := by omega
      by_cases hv : 0 ≤ v
      · obtain ⟨n, rfl⟩ := Int.eq_ofNat_of_zero_le hv
        have IT1 := Lib.hid (IT.out n _ b1 (by omega))
        clear IT AT
        go_wp2_with fail
        refine IT1.out.mono ?_
        rintro e w3 ⟨rfl, b3⟩
        have b03 := below_trans' b1 b3
        clear b3 b1 IT1
        by_cases hd2 : Lib.decDigits n = d
        · have HNM := Lib.hid (nm_of_ok (most := most) h9 hv (by show Lib.itoa (n : Int) = d; rw [Lib.itoa_nonneg]; exact hd2))
          have hq := bsl_eq d
          simp only [hd2]
          go_wp2_with fail
          go_ret2
          exact ⟨⟨n, by rw [HNM.out]; rfl, fun k hk => by rw [HNM.out] at hk; injection hk with hk; omega⟩, b03⟩
        · have HNM := Lib.hid (nm_none_ok HM.out HOK.out (fun h => hd2 (by rw [← Lib.itoa_nonneg]; exact h.2.2)))
          have hq := bsl_ne hd2
          go_wp2_with fail
          go_ret2
          exact ⟨⟨n, by rw [HNM.out]; rfl, fun k hk => by rw [HNM.out] at hk; cases hk⟩, b03⟩
      · have hvI : v < 0 := by omega
        have HNM := Lib.hid (nm_none_ok HM.out HOK.out (fun h => hv h.2.1))
        clear IT AT
        go_wp2_with fail
        go_ret2
        exact ⟨⟨v, by rw [HNM.out]; rfl, fun k hk => by rw [HNM.out] at hk; cases hk⟩, b1⟩
    · have h9I : decide (d.length ≤ most) = false := by simpa using h9
      have h9J : ¬ (d.length : Int) ≤ most := by omega
      have HNM := Lib.hid (nm_none_ok HM.out HOK.out (fun h => h9 h.1))
      clear IT AT
      go_wp2_with fail
      go_ret2
      exact ⟨⟨v, by rw [HNM.out]; rfl, fun k hk => by rw [HNM.out] at hk; cases hk⟩, b1⟩
  · have HNM := Lib.hid (nm_none_of' HM.out hno)
    clear hno IT AT
    go_wp2_with fail
    go_ret2
    exact ⟨⟨v, by rw [HNM.out]; rfl, fun k hk => by rw [HNM.out] at hk; cases hk⟩, b1⟩
end Go.Proofs.YtkjcclbnbbbfaaaGreatDoor
