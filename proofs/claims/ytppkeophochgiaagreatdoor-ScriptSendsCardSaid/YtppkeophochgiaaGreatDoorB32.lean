/- Texts of one proof, one behind the other: BasPlain, RefByte, NmbPlain. -/
import Derived.Test.YtppkeophochgiaaGreatDoorB06
import Derived.Test.YtppkeophochgiaaGreatDoorB10
import Derived.Test.YtppkeophochgiaaGreatDoorB01
import Derived.Test.YtppkeophochgiaaGreatDoorB03
import Derived.Handy
/- Plain laws of marks: a mark is read as it was written; how far a file is right. No program is in sight. -/
namespace Go.Proofs.YtppkeophochgiaaGreatDoor
open Go.RowKit
set_option linter.unusedVariables false

structure PMk where
  n : List UInt8
  N : Int
  S : Nat
deriving DecidableEq
def mkC (m : PMk) : Nat := if nameB m.n = false then 5 else if m.N < 0 ∨ 4000 < m.N then 2 else 0
def mkT (m : PMk) : List UInt8 := m.n ++ 32 :: (Lib.decDigits m.N.toNat ++ 32 :: Lib.decDigits m.S)
def mkX (m : PMk) : List UInt8 := if mkC m = 0 then mkT m else []
def zmk : PMk := ⟨[], 0, 0⟩
/-- what is read of three words -/
def rdW (a b c : List UInt8) : PMk × Nat :=
  match nmL 10 b, nmL 10 c with
  | some n, some s => if nameB a = false then (zmk, 5) else if 4000 < n ∨ 4294967295 < s then (zmk, 2) else (⟨a, n, s⟩, 0)
  | _, _ => (zmk, 1)
def rdM (s : List UInt8) : PMk × Nat :=
  match splC 32 s with
  | [a, b, c] => rdW a b c
  | _ => (zmk, 1)
/-- does a mark hold? -/
def okMk (name data : List UInt8) (m : PMk) : Bool := decide (m.n = name) && decide (0 < m.N) && decide (m.N ≤ data.length) && decide (csum (data.take m.N.toNat) = m.S)
theorem okMk_iff (name data : List UInt8) (m : PMk) : okMk name data m = true ↔ m.n = name ∧ 0 < m.N ∧ m.N ≤ data.length ∧ csum (data.take m.N.toNat) = m.S := by
  unfold okMk; simp [and_assoc]
/-- how far a file is right, behind a number -/
def farF (name data : List UInt8) : List PMk → Int → Int
  | [], far => far
  | m :: l, far => farF name data l (if m.n = name ∧ far < m.N ∧ m.N ≤ data.length ∧ csum (data.take m.N.toNat) = m.S then m.N else far)
def farL (name data : List UInt8) (l : List PMk) : Int := farF name data l 0
theorem farF_spec (name data : List UInt8) (l : List PMk) : ∀ far : Int, 0 ≤ far → far ≤ data.length → far ≤ farF name data l far ∧ farF name data l far ≤ data.length ∧ (∀ m ∈ l, okMk name data m = true → m.N ≤ farF name data l far) ∧ (farF name data l far = far ∨ ∃ m ∈ l, okMk name data m = true ∧ farF name data l far = m.N) := by
  induction l with
  | nil => intro far h0 h1; exact ⟨Int.le_refl _, h1, by simp, .inl rfl⟩
  | cons m l ih =>
    intro far h0 h1
    unfold farF
    by_cases hc : m.n = name ∧ far < m.N ∧ m.N ≤ data.length ∧ csum (data.take m.N.toNat) = m.S
    · rw [if_pos hc]
      obtain ⟨a1, a2, a3, a4⟩ := ih m.N (by omega) hc.2.2.1
      refine ⟨by omega, a2, fun x hx ho => ?_, .inr ?_⟩
      · rcases List.mem_cons.1 hx with rfl | hx
        · exact a1
        · exact a3 x hx ho
      · rcases a4 with e | ⟨x, hx, ho, e⟩
        · exact ⟨m, by simp, (okMk_iff _ _ _).2 ⟨hc.1, by omega, hc.2.2⟩, e⟩
        · exact ⟨x, by simp [hx], ho, e⟩
    · rw [if_neg hc]
      obtain ⟨a1, a2, a3, a4⟩ := ih far h0 h1
      refine ⟨a1, a2, fun x hx ho => ?_, ?_⟩
      · rcases List.mem_cons.1 hx with rfl | hx
        · obtain ⟨b1, b2, b3, b4⟩ := (okMk_iff _ _ _).1 ho
          by_cases hf : far < x.N
          · exact absurd ⟨b1, hf, b3, b4⟩ hc
          · omega
        · exact a3 x hx ho
      · rcases a4 with e | ⟨x, hx, ho, e⟩
        · exact .inl e
        · exact .inr ⟨x, by simp [hx], ho, e⟩
theorem farL_bd (name data : List UInt8) (l : List PMk) : 0 ≤ farL name data l ∧ farL name data l ≤ data.length := ⟨(farF_spec name data l 0 (by omega) (by omega)).1, (farF_spec name data l 0 (by omega) (by omega)).2.1⟩
end Go.Proofs.YtppkeophochgiaaGreatDoor
/- The document's Byte. -/
namespace Go.Proofs.YtppkeophochgiaaGreatDoor
open Go.RowKit
set_option linter.unusedVariables false

theorem bs_add (a b : List UInt8) : bs a ++ bs b = bs (a ++ b) := eq_bs (by simp)
end Go.Proofs.YtppkeophochgiaaGreatDoor
/- The document's Decimal (a number from 0), and Record. -/
namespace Go.Proofs.YtppkeophochgiaaGreatDoor
open Go.RowKit
set_option linter.unusedVariables false

end Go.Proofs.YtppkeophochgiaaGreatDoor
/- Plain laws of the document's NumberOf, digit by digit. No program is in sight. -/
namespace Go.Proofs.YtppkeophochgiaaGreatDoor
open Go.RowKit
set_option linter.unusedVariables false

/-! ### a place of a byte, by a search from the left -/
end Go.Proofs.YtppkeophochgiaaGreatDoor
/- The document's NumberOf. -/
namespace Go.Proofs.YtppkeophochgiaaGreatDoor
open Go.RowKit
set_option linter.unusedVariables false

attribute [local irreducible] nmL
end Go.Proofs.YtppkeophochgiaaGreatDoor
