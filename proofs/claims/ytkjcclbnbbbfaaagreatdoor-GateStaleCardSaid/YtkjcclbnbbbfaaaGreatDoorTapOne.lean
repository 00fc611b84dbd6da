/- Contract of tape.one: the record at the beginning of a text. -/
import Derived.Test.YtkjcclbnbbbfaaaGreatDoorTapPlain
import Derived.Test.YtkjcclbnbbbfaaaGreatDoorLibW
import Derived.Test.YtkjcclbnbbbfaaaGreatDoorAids
namespace Go.Proofs.YtkjcclbnbbbfaaaGreatDoor
open Go.RowKit
set_option linter.unusedVariables false

theorem atoi_any (E : Nat → Addr) (d : List UInt8) (w : World) (hd : d.length ≤ 1000000000) (hw : LibW E w) :
    Calls Tryz.prog 119 #[.string (bs d)] w fun e w' => ∃ v er, e = .returned (.tuple #[.int .i64 v, er]) ∧ Below w.heap.size w w' ∧ (er = .nilIface ∧ Lib.atoiAll d = .ok v ∨ (∃ t p, er = .iface t p) ∧ ∀ v, Lib.atoiAll d ≠ .ok v) := by
  by_cases h : ∃ v, Lib.atoiAll d = .ok v
  · obtain ⟨v, hv⟩ := h
    refine (atoi_yes E d v w hd hv).mono ?_
    rintro e w' ⟨rfl, b⟩
    exact ⟨v, _, rfl, b, .inl ⟨rfl, hv⟩⟩
  · have h' : ∀ v, Lib.atoiAll d ≠ .ok v := fun v hv => h ⟨v, hv⟩
    refine (atoi_no E d w hd hw h').mono ?_
    rintro e w' ⟨v, t, p, rfl, b⟩
    exact ⟨v, _, rfl, b, .inr ⟨⟨t, p, rfl⟩, h'⟩⟩
theorem one_cut {b : List UInt8} (h : cutC 58 b = none) : oneL b = none := by unfold oneL; rw [h]
theorem one_num {b : List UInt8} {p : List UInt8 × List UInt8} (h : cutC 58 b = some p) (hn : nmL 9 p.1 = none) : oneL b = none := by unfold oneL; rw [h]; simp only; rw [hn]
theorem one_if {b : List UInt8} {p : List UInt8 × List UInt8} {n : Nat} (h : cutC 58 b = some p) (hn : nmL 9 p.1 = some n) : oneL b = if n ≤ 20000 ∧ n + 2 ≤ p.2.length ∧ (p.2.drop n).take 2 = [10, 46] then some (p.2.take n) else none := by unfold oneL; rw [h]; simp only; rw [hn]
theorem nm_none_of {d : List UInt8} (h : ∀ v, Lib.atoiAll d ≠ .ok v) : nmL 9 d = none := by
  cases e : nmL 9 d with
  | none => rfl
  | some n => exact absurd (ok_of_nm (by decide) e).1 (h _)
theorem nm_none_ok {most : Nat} {d : List UInt8} {v : Int} (hm : most ≤ 18) (ha : Lib.atoiAll d = .ok v) (h : ¬ (d.length ≤ most ∧ 0 ≤ v ∧ Lib.itoa v = d)) : nmL most d = none := by
  cases e : nmL most d with
  | none => rfl
  | some n =>
    obtain ⟨h1, h2, h3⟩ := ok_of_nm hm e
    rw [ha] at h1
    injection h1 with h1
    subst h1
    exact absurd ⟨h2, by omega, h3⟩ h
theorem bsl_ne {a b : List UInt8} (h : a ≠ b) : ((bs a).toList == (bs b).toList) = false := by simp [ByteArray.toList_eq, h]
theorem bsl_eq (a : List UInt8) : ((bs a).toList == (bs a).toList) = true := by simp
/-- the sentence's bound on an Atoi's value -/
theorem atoi_bd {d : List UInt8} {v : Int} (h : Lib.atoiAll d = .ok v) : -9223372036854775808 ≤ v ∧ v ≤ 9223372036854775807 := Lib.atoiAll_bounds h
theorem bs_none : bs ((none : Option (List UInt8)).getD []) = ⟨#[]⟩ := bs_nil
theorem bs_mk58 : (⟨#[58]⟩ : ByteArray).data.toList = [58] := rfl
end Go.Proofs.YtkjcclbnbbbfaaaGreatDoor
