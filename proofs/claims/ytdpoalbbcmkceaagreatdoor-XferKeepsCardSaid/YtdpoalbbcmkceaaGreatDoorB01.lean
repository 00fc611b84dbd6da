/- Texts of one proof, one behind the other: Plain, NumPlain. -/
import Derived.WalkKit
import Derived.Lib.Hide
/- Plain laws on lists of bytes and integers: sums that roll. No program is in sight here. -/
namespace Go.Proofs.YtdpoalbbcmkceaaGreatDoor
open Go.RowKit

theorem ret_int {k : IntKind} {a b : Int} (h : a = b) : Ending.returned (.int k a) = .returned (.int k b) := by rw [h]
theorem ret_bool {a b : Bool} (h : a = b) : Ending.returned (.bool a) = .returned (.bool b) := by rw [h]
theorem ret_string {a b : ByteArray} (h : a = b) : Ending.returned (.string a) = .returned (.string b) := by rw [h]
theorem take_snoc (s : ByteArray) (k : Nat) (h : k < s.size) : s.data.toList.take (k + 1) = s.data.toList.take k ++ [s[k]] := by
  rw [List.take_succ_eq_append_getElem (by simpa using h)]; rfl

/-! ### weak sums -/
def wa : List UInt8 → Nat
  | [] => 0
  | c :: l => c.toNat + wa l
def wb : List UInt8 → Nat
  | [] => 0
  | c :: l => (l.length + 1) * c.toNat + wb l
theorem wa_append (l m : List UInt8) : wa (l ++ m) = wa l + wa m := by
  induction l with
  | nil => simp [wa]
  | cons c l ih => simp only [List.cons_append, wa, ih]; omega
theorem wb_append (l m : List UInt8) : wb (l ++ m) = wb l + m.length * wa l + wb m := by
  induction l with
  | nil => simp [wa, wb]
  | cons c l ih =>
    simp only [List.cons_append, wa, wb, ih, List.length_append, Nat.mul_add, Nat.add_mul]
    have := Nat.mul_comm m.length c.toNat
    have := Nat.mul_comm l.length c.toNat
    omega
theorem wa_le (l : List UInt8) : wa l ≤ 255 * l.length := by
  induction l with
  | nil => simp [wa]
  | cons c l ih => simp only [wa, List.length_cons]; have := c.toNat_lt; omega
/-- the sum of a text -/
def ws (l : List UInt8) : Int := ((wa l % 65536 + 65536 * (wb l % 65536) : Nat) : Int)
theorem ws_bd (l : List UInt8) : 0 ≤ ws l ∧ ws l < 4294967296 := by unfold ws; omega
theorem ws_mod (l : List UInt8) : ws l % 65536 = ((wa l % 65536 : Nat) : Int) := by unfold ws; omega
theorem ws_div (l : List UInt8) : ws l / 65536 = ((wb l % 65536 : Nat) : Int) := by unfold ws; omega

def wellB (a n l : Int) : Bool := decide (0 ≤ a) && decide (a < 4294967296) && decide (l ≤ n) && decide (n ≤ 4000)
theorem wellB_iff (a n l : Int) : wellB a n l = true ↔ 0 ≤ a ∧ a < 4294967296 ∧ l ≤ n ∧ n ≤ 4000 := by
  simp [wellB, and_assoc]
theorem wellB_no (a n l : Int) : wellB a n l = false ↔ ¬ (0 ≤ a ∧ a < 4294967296 ∧ l ≤ n ∧ n ≤ 4000) := by
  rw [← wellB_iff]; simp

def rollA (a out inn : Int) : Int := (a % 65536 - out + inn) % 65536
def rollI (a n out inn : Int) : Int := rollA a out inn + 65536 * ((a / 65536 - n * out + rollA a out inn) % 65536)
def joinI (a b n : Int) : Int := (a + b) % 65536 + 65536 * ((a / 65536 + n * (a % 65536) + b / 65536) % 65536)
def rollZ (a n out inn : Int) : Int := if wellB a n 1 then rollI a n out inn else -1
def joinZ (a b n : Int) : Int := if wellB a n 0 && wellB b n 0 then joinI a b n else -1

theorem rollI_bd (a n out inn : Int) : 0 ≤ rollI a n out inn ∧ rollI a n out inn < 4294967296 := by
  unfold rollI rollA; omega
theorem joinI_bd (a b n : Int) : 0 ≤ joinI a b n ∧ joinI a b n < 4294967296 := by
  unfold joinI; omega

/-- what is rolled is what is summed anew -/
theorem roll_ws (c d : UInt8) (l : List UInt8) : rollI (ws (c :: l)) ((l.length + 1 : Nat) : Int) (c.toNat : Int) (d.toNat : Int) = ws (l ++ [d]) := by
  have ha : wa (l ++ [d]) = wa l + d.toNat := by rw [wa_append]; simp [wa]
  have hb : wb (l ++ [d]) = wb l + wa l + d.toNat := by rw [wb_append]; simp [wb]
  have ha0 : wa (c :: l) = c.toNat + wa l := rfl
  have hb0 : wb (c :: l) = (l.length + 1) * c.toNat + wb l := rfl
  unfold rollI rollA
  rw [ws_mod, ws_div]
  unfold ws
  rw [ha, hb, ha0, hb0]
  have : ((l.length + 1 : Nat) : Int) * (c.toNat : Int) = (((l.length + 1) * c.toNat : Nat) : Int) := by simp
  rw [this]
  generalize (l.length + 1) * c.toNat = x
  omega

/-- what is joined is what is summed at once -/
theorem join_ws (s t : List UInt8) : joinI (ws s) (ws t) (t.length : Int) = ws (s ++ t) := by
  unfold joinI
  rw [ws_mod, ws_div, ws_div]
  unfold ws
  rw [wa_append, wb_append]
  have h : ((t.length : Int) * ((wa s % 65536 : Nat) : Int)) % 65536 = ((t.length * wa s : Nat) : Int) % 65536 := by
    simp [Int.mul_emod]
  generalize (t.length : Int) * ((wa s % 65536 : Nat) : Int) = x at *
  generalize t.length * wa s = y at *
  omega
def isWeakB (a : Int) : Bool := decide (0 ≤ a) && decide (a < 4294967296)
theorem isWeakB_iff (a : Int) : isWeakB a = true ↔ 0 ≤ a ∧ a < 4294967296 := by simp [isWeakB]
attribute [irreducible] isWeakB wa wb ws wellB rollA rollI joinI rollZ joinZ
end Go.Proofs.YtdpoalbbcmkceaaGreatDoor
/- Plain laws: numbers as bytes, and texts behind how many they are: what is written is read, whatever stands behind. No program is in sight here. -/
namespace Go.Proofs.YtdpoalbbcmkceaaGreatDoor
open Go.RowKit

/-- a text of bytes -/
def bs (l : List UInt8) : ByteArray := ⟨l.toArray⟩
@[simp, go_sem] theorem bs_list (l : List UInt8) : (bs l).data.toList = l := by simp [bs]
@[simp, go_sem] theorem bs_size (l : List UInt8) : (bs l).size = l.length := by simp [bs, ByteArray.size]
theorem bs_of (s : ByteArray) : bs s.data.toList = s := by simp [bs]
theorem bytes_ext {a b : ByteArray} (h : a.data.toList = b.data.toList) : a = b := by
  rw [← bs_of a, ← bs_of b, h]
theorem eq_bs {a : ByteArray} {l : List UInt8} (h : a.data.toList = l) : a = bs l := by rw [← h, bs_of]
theorem bs_drop (s : ByteArray) (k : Nat) : s.extract k s.size = bs (s.data.toList.drop k) := by
  rw [← bs_of (s.extract k s.size)]
  congr 1
  simp
  rw [List.take_of_length_le (by simp)]
theorem bs_take (s : ByteArray) (k : Nat) : s.extract 0 k = bs (s.data.toList.take k) := by
  rw [← bs_of (s.extract 0 k)]
  simp
theorem bs_nil : bs [] = ⟨#[]⟩ := rfl
attribute [irreducible] bs

def numB : Nat → Nat → List UInt8
  | 0, n => [UInt8.ofNat n]
  | k + 1, n => if n < 128 then [UInt8.ofNat n] else UInt8.ofNat (n % 128 + 128) :: numB k (n / 128)
def num (n : Nat) : List UInt8 := numB 6 n
theorem numB_zero (n : Nat) : numB 0 n = [UInt8.ofNat n] := rfl
theorem numB_small (k n : Nat) (h : n < 128) : numB k n = [UInt8.ofNat n] := by
  cases k with
  | zero => rfl
  | succ k => simp [numB, h]
theorem numB_big (k n : Nat) (h : 128 ≤ n) : numB (k + 1) n = UInt8.ofNat (n % 128 + 128) :: numB k (n / 128) := by
  simp [numB, show ¬ n < 128 by omega]
theorem numB_len (k : Nat) : ∀ n, (numB k n).length ≤ k + 1 := by
  induction k with
  | zero => intro n; simp [numB]
  | succ k ih => intro n; unfold numB; split; · simp
                 · simp only [List.length_cons]; have := ih (n / 128); omega
theorem numB_pos (k n : Nat) : 0 < (numB k n).length := by
  cases k with
  | zero => simp [numB]
  | succ k => unfold numB; split <;> simp
theorem num_len (n : Nat) : (num n).length ≤ 7 := numB_len 6 n
theorem num_pos (n : Nat) : 0 < (num n).length := numB_pos 6 n

def getA : Nat → Nat → Nat → List UInt8 → Nat × List UInt8 × Nat
  | 0, _, _, _ => (0, [], 1)
  | _ + 1, _, _, [] => (0, [], 1)
  | k + 1, i, acc, c :: l =>
    if 128 ≤ c.toNat then getA k (i + 1) (acc + c.toNat % 128 * 128 ^ i) l
    else if c.toNat = 0 ∧ 0 < i then (0, [], 1)
    else if 1099511627776 < acc + c.toNat % 128 * 128 ^ i then (0, [], 2)
    else (acc + c.toNat % 128 * 128 ^ i, l, 0)
theorem getA_nil (k i acc : Nat) : getA k i acc [] = (0, [], 1) := by cases k <;> rfl
theorem getA_end (i acc : Nat) (l : List UInt8) : getA 0 i acc l = (0, [], 1) := rfl
theorem getA_more {k i acc : Nat} {c : UInt8} {l : List UInt8} (h : 128 ≤ c.toNat) : getA (k + 1) i acc (c :: l) = getA k (i + 1) (acc + c.toNat % 128 * 128 ^ i) l := by simp [getA, h]
theorem getA_zero {k i acc : Nat} {c : UInt8} {l : List UInt8} (h : c.toNat = 0) (hi : 0 < i) : getA (k + 1) i acc (c :: l) = (0, [], 1) := by simp [getA, h, hi]
theorem getA_over {k i acc : Nat} {c : UInt8} {l : List UInt8} (h : c.toNat < 128) (h0 : ¬ (c.toNat = 0 ∧ 0 < i)) (hn : 1099511627776 < acc + c.toNat % 128 * 128 ^ i) : getA (k + 1) i acc (c :: l) = (0, [], 2) := by
  simp only [getA]; rw [if_neg (by omega), if_neg h0, if_pos hn]
theorem getA_done {k i acc : Nat} {c : UInt8} {l : List UInt8} (h : c.toNat < 128) (h0 : ¬ (c.toNat = 0 ∧ 0 < i)) (hn : ¬ 1099511627776 < acc + c.toNat % 128 * 128 ^ i) : getA (k + 1) i acc (c :: l) = (acc + c.toNat % 128 * 128 ^ i, l, 0) := by
  simp only [getA]; rw [if_neg (by omega), if_neg h0, if_neg hn]
def getL (l : List UInt8) : Nat × List UInt8 × Nat := getA 6 0 0 l
def gN (l : List UInt8) : Nat := (getL l).1
def gR (l : List UInt8) : List UInt8 := (getL l).2.1
def gC (l : List UInt8) : Nat := (getL l).2.2

theorem getA_code (k : Nat) : ∀ i acc l, (getA k i acc l).2.2 = 0 ∨ ((getA k i acc l).2.2 = 1 ∨ (getA k i acc l).2.2 = 2) ∧ (getA k i acc l).1 = 0 ∧ (getA k i acc l).2.1 = [] := by
  induction k with
  | zero => intro i acc l; simp [getA]
  | succ k ih =>
    intro i acc l
    cases l with
    | nil => simp [getA]
    | cons c l =>
      unfold getA
      split
      · exact ih _ _ _
      · split
        · simp
        · split <;> simp
theorem gC_cases (l : List UInt8) : gC l = 0 ∨ (gC l = 1 ∨ gC l = 2) ∧ gN l = 0 ∧ gR l = [] := getA_code 6 0 0 l
theorem getA_bound (k : Nat) : ∀ i acc l, (getA k i acc l).1 ≤ 1099511627776 ∧ (getA k i acc l).2.1.length ≤ l.length := by
  induction k with
  | zero => intro i acc l; simp [getA]
  | succ k ih =>
    intro i acc l
    cases l with
    | nil => simp [getA]
    | cons c l =>
      unfold getA
      split
      · have := ih (i + 1) (acc + c.toNat % 128 * 128 ^ i) l
        exact ⟨this.1, by simp only [List.length_cons]; omega⟩
      · split
        · simp
        · split
          · simp
          · simp only [List.length_cons]; omega
theorem gN_le (l : List UInt8) : gN l ≤ 1099511627776 := (getA_bound 6 0 0 l).1
theorem gR_len (l : List UInt8) : (gR l).length ≤ l.length := (getA_bound 6 0 0 l).2

theorem byte_ofNat (n : Nat) (h : n < 256) : (UInt8.ofNat n).toNat = n := by simp; omega
theorem getA_num (k : Nat) : ∀ (j i acc m : Nat) (more : List UInt8), m < 128 ^ k → m < 128 ^ (j + 1) → (i = 0 ∨ 0 < m) → acc + m * 128 ^ i ≤ 1099511627776 → 0 < k →
    getA k i acc (numB j m ++ more) = (acc + m * 128 ^ i, more, 0) := by
  induction k with
  | zero => intro j i acc m more _ _ _ _ h; omega
  | succ k ih =>
    intro j i acc m more hk hj hi hb _
    by_cases hm : m < 128
    · rw [numB_small j m hm]
      have e : (UInt8.ofNat m).toNat = m := byte_ofNat m (by omega)
      have e2 : m % 128 = m := by omega
      show getA (k + 1) i acc (UInt8.ofNat m :: more) = _
      rw [getA_done (by omega) (by omega) (by rw [e, e2]; omega), e, e2]
    · obtain ⟨j', rfl⟩ : ∃ j', j = j' + 1 := by
        cases j with
        | zero => simp at hj; omega
        | succ j' => exact ⟨j', rfl⟩
      rw [numB_big j' m (by omega)]
      have e : (UInt8.ofNat (m % 128 + 128)).toNat = m % 128 + 128 := byte_ofNat _ (by omega)
      show getA (k + 1) i acc (UInt8.ofNat (m % 128 + 128) :: (numB j' (m / 128) ++ more)) = _
      rw [getA_more (by omega), e]
      have e2 : (m % 128 + 128) % 128 = m % 128 := by omega
      rw [e2]
      have hk2 : m / 128 < 128 ^ k := by rw [Nat.pow_succ] at hk; omega
      have hj2 : m / 128 < 128 ^ (j' + 1) := by rw [Nat.pow_succ] at hj; omega
      have hkp : 0 < k := by
        cases k with
        | zero => simp at hk; omega
        | succ k => omega
      have hsum : acc + m % 128 * 128 ^ i + m / 128 * 128 ^ (i + 1) = acc + m * 128 ^ i := by
        rw [Nat.pow_succ, Nat.mul_comm (128 ^ i) 128, ← Nat.mul_assoc, Nat.add_assoc, ← Nat.add_mul]
        have : m % 128 + m / 128 * 128 = m := by omega
        rw [this]
      rw [ih j' (i + 1) (acc + m % 128 * 128 ^ i) (m / 128) more hk2 hj2 (by omega) (by omega) hkp, hsum]
theorem getL_num (n : Nat) (more : List UInt8) (h : n ≤ 1099511627776) : getL (num n ++ more) = (n, more, 0) := by
  have := getA_num 6 6 0 0 n more (by omega) (by omega) (by omega) (by omega) (by omega)
  simpa [getL, num] using this
theorem gN_num (n : Nat) (more : List UInt8) (h : n ≤ 1099511627776) : gN (num n ++ more) = n := by unfold gN; rw [getL_num n more h]
theorem gR_num (n : Nat) (more : List UInt8) (h : n ≤ 1099511627776) : gR (num n ++ more) = more := by unfold gR; rw [getL_num n more h]
theorem gC_num (n : Nat) (more : List UInt8) (h : n ≤ 1099511627776) : gC (num n ++ more) = 0 := by unfold gC; rw [getL_num n more h]
/-- no number's bytes begin another one's -/
theorem num_begins (n m : Nat) (rest : List UInt8) (hn : n ≤ 1099511627776) (hm : m ≤ 1099511627776) (h : num m = num n ++ rest) : n = m := by
  have h1 := getL_num n rest hn
  have h2 := getL_num m [] hm
  rw [List.append_nil, h, h1] at h2
  have h3 : n = m ∧ rest = [] := by simpa using h2
  exact h3.1

def putC (n : Int) : Nat := if 0 ≤ n ∧ n ≤ 1099511627776 then 0 else 2
def putL (n : Int) : List UInt8 := if 0 ≤ n ∧ n ≤ 1099511627776 then num n.toNat else []
def ptC (l : List UInt8) : Nat := if l.length ≤ 20000 then 0 else 2
def ptL (l : List UInt8) : List UInt8 := if l.length ≤ 20000 then num l.length ++ l else []
def tC (l : List UInt8) : Nat := if gC l ≠ 0 then gC l else if 20000 < gN l then 2 else if (gR l).length < gN l then 1 else 0
def tT (l : List UInt8) : List UInt8 := if tC l = 0 then (gR l).take (gN l) else []
def tR (l : List UInt8) : List UInt8 := if tC l = 0 then (gR l).drop (gN l) else []
theorem putC_yes {n : Int} (h : 0 ≤ n ∧ n ≤ 1099511627776) : putC n = 0 ∧ putL n = num n.toNat := by simp [putC, putL, h]
theorem putC_no {n : Int} (h : ¬ (0 ≤ n ∧ n ≤ 1099511627776)) : putC n = 2 ∧ putL n = [] := by
  constructor
  · unfold putC; rw [if_neg h]
  · unfold putL; rw [if_neg h]
theorem ptC_yes {l : List UInt8} (h : l.length ≤ 20000) : ptC l = 0 ∧ ptL l = num l.length ++ l := by simp [ptC, ptL, h]
theorem ptC_no {l : List UInt8} (h : ¬ l.length ≤ 20000) : ptC l = 2 ∧ ptL l = [] := by
  constructor
  · unfold ptC; rw [if_neg h]
  · unfold ptL; rw [if_neg h]
theorem tC_cases (l : List UInt8) : tC l = 0 ∨ (tC l = 1 ∨ tC l = 2) ∧ tT l = [] ∧ tR l = [] := by
  by_cases h : tC l = 0
  · exact .inl h
  · refine .inr ⟨?_, by simp [tT, h], by simp [tR, h]⟩
    have := gC_cases l
    unfold tC at h ⊢
    split at h
    · rename_i h2; rw [if_pos h2]; omega
    · rename_i h2; rw [if_neg h2]
      split at h
      · simp [*]
      · split at h
        · simp [*]
        · omega
/-- a text is read as it was written, whatever stands behind -/
theorem t_text (l more : List UInt8) (h : l.length ≤ 20000) : tC (num l.length ++ l ++ more) = 0 ∧ tT (num l.length ++ l ++ more) = l ∧ tR (num l.length ++ l ++ more) = more := by
  have hn : l.length ≤ 1099511627776 := by omega
  have h1 := gN_num l.length (l ++ more) hn
  have h2 := gR_num l.length (l ++ more) hn
  have h3 := gC_num l.length (l ++ more) hn
  rw [← List.append_assoc] at h1 h2 h3
  have h0 : tC (num l.length ++ l ++ more) = 0 := by
    unfold tC
    rw [h3, h2, h1, if_neg (by simp), if_neg (by omega), if_neg (by simp)]
  exact ⟨h0, by unfold tT; rw [if_pos h0, h1, h2]; simp, by unfold tR; rw [if_pos h0, h1, h2]; simp⟩
theorem tT_len (l : List UInt8) : (tT l).length ≤ 20000 ∧ (tT l).length ≤ l.length ∧ (tR l).length ≤ l.length := by
  have h1 := gR_len l
  unfold tT tR
  split
  · rename_i h
    unfold tC at h
    split at h
    · omega
    · split at h
      · simp at h
      · split at h
        · simp at h
        · refine ⟨?_, ?_, ?_⟩ <;> simp <;> omega
  · simp
attribute [irreducible] numB num getA getL gN gR gC putC putL ptC ptL tC tT tR
end Go.Proofs.YtdpoalbbcmkceaaGreatDoor
