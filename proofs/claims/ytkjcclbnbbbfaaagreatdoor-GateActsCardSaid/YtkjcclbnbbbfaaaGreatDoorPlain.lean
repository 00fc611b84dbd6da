/- Plain laws on lists of bytes and integers: sums that roll. No program is in sight here. -/
import Derived.WalkKit
import Derived.Lib.Hide
namespace Go.Proofs.YtkjcclbnbbbfaaaGreatDoor
open Go.RowKit

theorem ret_int {k : IntKind} {a b : Int} (h : a = b) : Ending.returned (.int k a) = .returned (.int k b) := by rw [h]
theorem ret_bool {a b : Bool} (h : a = b) : Ending.returned (.bool a) = .returned (.bool b) := by rw [h]
theorem ret_string {a b : ByteArray} (h : a = b) : Ending.returned (.string a) = .returned (.string b) := by rw [h]
theorem take_snoc (s : ByteArray) (k : Nat) (h : k < s.size) : s.data.toList.take (k + 1) = s.data.toList.take k ++ [s[k]] := by
  rw [List.take_succ_eq_append_getElem (by simpa using h)]; rfl

/-! ### weak sums -/
def wa : List UInt8 → Nat
  | [] => 0
  | c :: l => c.toNat + wa l
def wb : List UInt8 → Nat
  | [] => 0
  | c :: l => (l.length + 1) * c.toNat + wb l
theorem wa_append (l m : List UInt8) : wa (l ++ m) = wa l + wa m := by
  induction l with
  | nil => simp [wa]
  | cons c l ih => simp only [List.cons_append, wa, ih]; omega
theorem wb_append (l m : List UInt8) : wb (l ++ m) = wb l + m.length * wa l + wb m := by
  induction l with
  | nil => simp [wa, wb]
  | cons c l ih =>
    simp only [List.cons_append, wa, wb, ih, List.length_append, Nat.mul_add, Nat.add_mul]
    have := Nat.mul_comm m.length c.toNat
    have := Nat.mul_comm l.length c.toNat
    omega
theorem wa_le (l : List UInt8) : wa l ≤ 255 * l.length := by
  induction l with
  | nil => simp [wa]
  | cons c l ih => simp only [wa, List.length_cons]; have := c.toNat_lt; omega
/-- the sum of a text -/
def ws (l : List UInt8) : Int := ((wa l % 65536 + 65536 * (wb l % 65536) : Nat) : Int)
theorem ws_bd (l : List UInt8) : 0 ≤ ws l ∧ ws l < 4294967296 := by unfold ws; omega
theorem ws_mod (l : List UInt8) : ws l % 65536 = ((wa l % 65536 : Nat) : Int) := by unfold ws; omega
theorem ws_div (l : List UInt8) : ws l / 65536 = ((wb l % 65536 : Nat) : Int) := by unfold ws; omega

def wellB (a n l : Int) : Bool := decide (0 ≤ a) && decide (a < 4294967296) && decide (l ≤ n) && decide (n ≤ 4000)
theorem wellB_iff (a n l : Int) : wellB a n l = true ↔ 0 ≤ a ∧ a < 4294967296 ∧ l ≤ n ∧ n ≤ 4000 := by
  simp [wellB, and_assoc]
theorem wellB_no (a n l : Int) : wellB a n l = false ↔ ¬ (0 ≤ a ∧ a < 4294967296 ∧ l ≤ n ∧ n ≤ 4000) := by
  rw [← wellB_iff]; simp

def rollA (a out inn : Int) : Int := (a % 65536 - out + inn) % 65536
def rollI (a n out inn : Int) : Int := rollA a out inn + 65536 * ((a / 65536 - n * out + rollA a out inn) % 65536)
def joinI (a b n : Int) : Int := (a + b) % 65536 + 65536 * ((a / 65536 + n * (a % 65536) + b / 65536) % 65536)
def rollZ (a n out inn : Int) : Int := if wellB a n 1 then rollI a n out inn else -1
def joinZ (a b n : Int) : Int := if wellB a n 0 && wellB b n 0 then joinI a b n else -1

theorem rollI_bd (a n out inn : Int) : 0 ≤ rollI a n out inn ∧ rollI a n out inn < 4294967296 := by
  unfold rollI rollA; omega
theorem joinI_bd (a b n : Int) : 0 ≤ joinI a b n ∧ joinI a b n < 4294967296 := by
  unfold joinI; omega

/-- what is rolled is what is summed anew -/
theorem roll_ws (c d : UInt8) (l : List UInt8) : rollI (ws (c :: l)) ((l.length + 1 : Nat) : Int) (c.toNat : Int) (d.toNat : Int) = ws (l ++ [d]) := by
  have ha : wa (l ++ [d]) = wa l + d.toNat := by rw [wa_append]; simp [wa]
  have hb : wb (l ++ [d]) = wb l + wa l + d.toNat := by rw [wb_append]; simp [wb]
  have ha0 : wa (c :: l) = c.toNat + wa l := rfl
  have hb0 : wb (c :: l) = (l.length + 1) * c.toNat + wb l := rfl
  unfold rollI rollA
  rw [ws_mod, ws_div]
  unfold ws
  rw [ha, hb, ha0, hb0]
  have : ((l.length + 1 : Nat) : Int) * (c.toNat : Int) = (((l.length + 1) * c.toNat : Nat) : Int) := by simp
  rw [this]
  generalize (l.length + 1) * c.toNat = x
  omega

/-- what is joined is what is summed at once -/
theorem join_ws (s t : List UInt8) : joinI (ws s) (ws t) (t.length : Int) = ws (s ++ t) := by
  unfold joinI
  rw [ws_mod, ws_div, ws_div]
  unfold ws
  rw [wa_append, wb_append]
  have h : ((t.length : Int) * ((wa s % 65536 : Nat) : Int)) % 65536 = ((t.length * wa s : Nat) : Int) % 65536 := by
    simp [Int.mul_emod]
  generalize (t.length : Int) * ((wa s % 65536 : Nat) : Int) = x at *
  generalize t.length * wa s = y at *
  omega
def isWeakB (a : Int) : Bool := decide (0 ≤ a) && decide (a < 4294967296)
theorem isWeakB_iff (a : Int) : isWeakB a = true ↔ 0 ≤ a ∧ a < 4294967296 := by simp [isWeakB]
attribute [irreducible] isWeakB wa wb ws wellB rollA rollI joinI rollZ joinZ
end Go.Proofs.YtkjcclbnbbbfaaaGreatDoor
