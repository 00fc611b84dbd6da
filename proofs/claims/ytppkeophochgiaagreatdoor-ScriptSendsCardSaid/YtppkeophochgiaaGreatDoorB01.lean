/- Texts of one proof, one behind the other: Plain, NumPlain, Crc, BlkPlain. -/
import Derived.WalkKit
import Derived.Lib.Hide
import Derived.Laws.BitsAllLaws
/- Plain laws on lists of bytes and integers: sums that roll. No program is in sight here. -/
namespace Go.Proofs.YtppkeophochgiaaGreatDoor
open Go.RowKit

theorem ret_int {k : IntKind} {a b : Int} (h : a = b) : Ending.returned (.int k a) = .returned (.int k b) := by rw [h]
theorem ret_bool {a b : Bool} (h : a = b) : Ending.returned (.bool a) = .returned (.bool b) := by rw [h]
theorem ret_string {a b : ByteArray} (h : a = b) : Ending.returned (.string a) = .returned (.string b) := by rw [h]
theorem take_snoc (s : ByteArray) (k : Nat) (h : k < s.size) : s.data.toList.take (k + 1) = s.data.toList.take k ++ [s[k]] := by
  rw [List.take_succ_eq_append_getElem (by simpa using h)]; rfl

/-! ### weak sums -/
def wa : List UInt8 → Nat
  | [] => 0
  | c :: l => c.toNat + wa l
def wb : List UInt8 → Nat
  | [] => 0
  | c :: l => (l.length + 1) * c.toNat + wb l
theorem wa_append (l m : List UInt8) : wa (l ++ m) = wa l + wa m := by
  induction l with
  | nil => simp [wa]
  | cons c l ih => simp only [List.cons_append, wa, ih]; omega
theorem wb_append (l m : List UInt8) : wb (l ++ m) = wb l + m.length * wa l + wb m := by
  induction l with
  | nil => simp [wa, wb]
  | cons c l ih =>
    simp only [List.cons_append, wa, wb, ih, List.length_append, Nat.mul_add, Nat.add_mul]
    have := Nat.mul_comm m.length c.toNat
    have := Nat.mul_comm l.length c.toNat
    omega
theorem wa_le (l : List UInt8) : wa l ≤ 255 * l.length := by
  induction l with
  | nil => simp [wa]
  | cons c l ih => simp only [wa, List.length_cons]; have := c.toNat_lt; omega
/-- the sum of a text -/
def ws (l : List UInt8) : Int := ((wa l % 65536 + 65536 * (wb l % 65536) : Nat) : Int)
theorem ws_bd (l : List UInt8) : 0 ≤ ws l ∧ ws l < 4294967296 := by unfold ws; omega
attribute [irreducible] wa wb ws
end Go.Proofs.YtppkeophochgiaaGreatDoor
/- Plain laws: numbers as bytes, and texts behind how many they are: what is written is read, whatever stands behind. No program is in sight here. -/
namespace Go.Proofs.YtppkeophochgiaaGreatDoor
open Go.RowKit

/-- a text of bytes -/
def bs (l : List UInt8) : ByteArray := ⟨l.toArray⟩
@[simp, go_sem] theorem bs_list (l : List UInt8) : (bs l).data.toList = l := by simp [bs]
@[simp, go_sem] theorem bs_size (l : List UInt8) : (bs l).size = l.length := by simp [bs, ByteArray.size]
theorem bs_of (s : ByteArray) : bs s.data.toList = s := by simp [bs]
theorem eq_bs {a : ByteArray} {l : List UInt8} (h : a.data.toList = l) : a = bs l := by rw [← h, bs_of]
theorem bs_drop (s : ByteArray) (k : Nat) : s.extract k s.size = bs (s.data.toList.drop k) := by
  rw [← bs_of (s.extract k s.size)]
  congr 1
  simp
  rw [List.take_of_length_le (by simp)]
theorem bs_take (s : ByteArray) (k : Nat) : s.extract 0 k = bs (s.data.toList.take k) := by
  rw [← bs_of (s.extract 0 k)]
  simp
theorem bs_nil : bs [] = ⟨#[]⟩ := rfl
attribute [irreducible] bs
def numB : Nat → Nat → List UInt8
  | 0, n => [UInt8.ofNat n]
  | k + 1, n => if n < 128 then [UInt8.ofNat n] else UInt8.ofNat (n % 128 + 128) :: numB k (n / 128)
def num (n : Nat) : List UInt8 := numB 6 n
theorem numB_small (k n : Nat) (h : n < 128) : numB k n = [UInt8.ofNat n] := by
  cases k with
  | zero => rfl
  | succ k => simp [numB, h]
theorem numB_big (k n : Nat) (h : 128 ≤ n) : numB (k + 1) n = UInt8.ofNat (n % 128 + 128) :: numB k (n / 128) := by
  simp [numB, show ¬ n < 128 by omega]
theorem numB_len (k : Nat) : ∀ n, (numB k n).length ≤ k + 1 := by
  induction k with
  | zero => intro n; simp [numB]
  | succ k ih => intro n; unfold numB; split; · simp
                 · simp only [List.length_cons]; have := ih (n / 128); omega
theorem numB_pos (k n : Nat) : 0 < (numB k n).length := by
  cases k with
  | zero => simp [numB]
  | succ k => unfold numB; split <;> simp
theorem num_len (n : Nat) : (num n).length ≤ 7 := numB_len 6 n
theorem num_pos (n : Nat) : 0 < (num n).length := numB_pos 6 n

def getA : Nat → Nat → Nat → List UInt8 → Nat × List UInt8 × Nat
  | 0, _, _, _ => (0, [], 1)
  | _ + 1, _, _, [] => (0, [], 1)
  | k + 1, i, acc, c :: l =>
    if 128 ≤ c.toNat then getA k (i + 1) (acc + c.toNat % 128 * 128 ^ i) l
    else if c.toNat = 0 ∧ 0 < i then (0, [], 1)
    else if 1099511627776 < acc + c.toNat % 128 * 128 ^ i then (0, [], 2)
    else (acc + c.toNat % 128 * 128 ^ i, l, 0)
theorem getA_nil (k i acc : Nat) : getA k i acc [] = (0, [], 1) := by cases k <;> rfl
theorem getA_end (i acc : Nat) (l : List UInt8) : getA 0 i acc l = (0, [], 1) := rfl
theorem getA_more {k i acc : Nat} {c : UInt8} {l : List UInt8} (h : 128 ≤ c.toNat) : getA (k + 1) i acc (c :: l) = getA k (i + 1) (acc + c.toNat % 128 * 128 ^ i) l := by simp [getA, h]
theorem getA_zero {k i acc : Nat} {c : UInt8} {l : List UInt8} (h : c.toNat = 0) (hi : 0 < i) : getA (k + 1) i acc (c :: l) = (0, [], 1) := by simp [getA, h, hi]
theorem getA_over {k i acc : Nat} {c : UInt8} {l : List UInt8} (h : c.toNat < 128) (h0 : ¬ (c.toNat = 0 ∧ 0 < i)) (hn : 1099511627776 < acc + c.toNat % 128 * 128 ^ i) : getA (k + 1) i acc (c :: l) = (0, [], 2) := by
  simp only [getA]; rw [if_neg (by omega), if_neg h0, if_pos hn]
theorem getA_done {k i acc : Nat} {c : UInt8} {l : List UInt8} (h : c.toNat < 128) (h0 : ¬ (c.toNat = 0 ∧ 0 < i)) (hn : ¬ 1099511627776 < acc + c.toNat % 128 * 128 ^ i) : getA (k + 1) i acc (c :: l) = (acc + c.toNat % 128 * 128 ^ i, l, 0) := by
  simp only [getA]; rw [if_neg (by omega), if_neg h0, if_neg hn]
def getL (l : List UInt8) : Nat × List UInt8 × Nat := getA 6 0 0 l
def gN (l : List UInt8) : Nat := (getL l).1
def gR (l : List UInt8) : List UInt8 := (getL l).2.1
def gC (l : List UInt8) : Nat := (getL l).2.2

theorem getA_code (k : Nat) : ∀ i acc l, (getA k i acc l).2.2 = 0 ∨ ((getA k i acc l).2.2 = 1 ∨ (getA k i acc l).2.2 = 2) ∧ (getA k i acc l).1 = 0 ∧ (getA k i acc l).2.1 = [] := by
  induction k with
  | zero => intro i acc l; simp [getA]
  | succ k ih =>
    intro i acc l
    cases l with
    | nil => simp [getA]
    | cons c l =>
      unfold getA
      split
      · exact ih _ _ _
      · split
        · simp
        · split <;> simp
theorem gC_cases (l : List UInt8) : gC l = 0 ∨ (gC l = 1 ∨ gC l = 2) ∧ gN l = 0 ∧ gR l = [] := getA_code 6 0 0 l
theorem getA_bound (k : Nat) : ∀ i acc l, (getA k i acc l).1 ≤ 1099511627776 ∧ (getA k i acc l).2.1.length ≤ l.length := by
  induction k with
  | zero => intro i acc l; simp [getA]
  | succ k ih =>
    intro i acc l
    cases l with
    | nil => simp [getA]
    | cons c l =>
      unfold getA
      split
      · have := ih (i + 1) (acc + c.toNat % 128 * 128 ^ i) l
        exact ⟨this.1, by simp only [List.length_cons]; omega⟩
      · split
        · simp
        · split
          · simp
          · simp only [List.length_cons]; omega
theorem gN_le (l : List UInt8) : gN l ≤ 1099511627776 := (getA_bound 6 0 0 l).1
theorem gR_len (l : List UInt8) : (gR l).length ≤ l.length := (getA_bound 6 0 0 l).2

theorem byte_ofNat (n : Nat) (h : n < 256) : (UInt8.ofNat n).toNat = n := by simp; omega
theorem getA_num (k : Nat) : ∀ (j i acc m : Nat) (more : List UInt8), m < 128 ^ k → m < 128 ^ (j + 1) → (i = 0 ∨ 0 < m) → acc + m * 128 ^ i ≤ 1099511627776 → 0 < k →
    getA k i acc (numB j m ++ more) = (acc + m * 128 ^ i, more, 0) := by
  induction k with
  | zero => intro j i acc m more _ _ _ _ h; omega
  | succ k ih =>
    intro j i acc m more hk hj hi hb _
    by_cases hm : m < 128
    · rw [numB_small j m hm]
      have e : (UInt8.ofNat m).toNat = m := byte_ofNat m (by omega)
      have e2 : m % 128 = m := by omega
      show getA (k + 1) i acc (UInt8.ofNat m :: more) = _
      rw [getA_done (by omega) (by omega) (by rw [e, e2]; omega), e, e2]
    · obtain ⟨j', rfl⟩ : ∃ j', j = j' + 1 := by
        cases j with
        | zero => simp at hj; omega
        | succ j' => exact ⟨j', rfl⟩
      rw [numB_big j' m (by omega)]
      have e : (UInt8.ofNat (m % 128 + 128)).toNat = m % 128 + 128 := byte_ofNat _ (by omega)
      show getA (k + 1) i acc (UInt8.ofNat (m % 128 + 128) :: (numB j' (m / 128) ++ more)) = _
      rw [getA_more (by omega), e]
      have e2 : (m % 128 + 128) % 128 = m % 128 := by omega
      rw [e2]
      have hk2 : m / 128 < 128 ^ k := by rw [Nat.pow_succ] at hk; omega
      have hj2 : m / 128 < 128 ^ (j' + 1) := by rw [Nat.pow_succ] at hj; omega
      have hkp : 0 < k := by
        cases k with
        | zero => simp at hk; omega
        | succ k => omega
      have hsum : acc + m % 128 * 128 ^ i + m / 128 * 128 ^ (i + 1) = acc + m * 128 ^ i := by
        rw [Nat.pow_succ, Nat.mul_comm (128 ^ i) 128, ← Nat.mul_assoc, Nat.add_assoc, ← Nat.add_mul]
        have : m % 128 + m / 128 * 128 = m := by omega
        rw [this]
      rw [ih j' (i + 1) (acc + m % 128 * 128 ^ i) (m / 128) more hk2 hj2 (by omega) (by omega) hkp, hsum]
theorem getL_num (n : Nat) (more : List UInt8) (h : n ≤ 1099511627776) : getL (num n ++ more) = (n, more, 0) := by
  have := getA_num 6 6 0 0 n more (by omega) (by omega) (by omega) (by omega) (by omega)
  simpa [getL, num] using this
theorem gN_num (n : Nat) (more : List UInt8) (h : n ≤ 1099511627776) : gN (num n ++ more) = n := by unfold gN; rw [getL_num n more h]
theorem gR_num (n : Nat) (more : List UInt8) (h : n ≤ 1099511627776) : gR (num n ++ more) = more := by unfold gR; rw [getL_num n more h]
theorem gC_num (n : Nat) (more : List UInt8) (h : n ≤ 1099511627776) : gC (num n ++ more) = 0 := by unfold gC; rw [getL_num n more h]
def putC (n : Int) : Nat := if 0 ≤ n ∧ n ≤ 1099511627776 then 0 else 2
def putL (n : Int) : List UInt8 := if 0 ≤ n ∧ n ≤ 1099511627776 then num n.toNat else []
def ptC (l : List UInt8) : Nat := if l.length ≤ 20000 then 0 else 2
def ptL (l : List UInt8) : List UInt8 := if l.length ≤ 20000 then num l.length ++ l else []
def tC (l : List UInt8) : Nat := if gC l ≠ 0 then gC l else if 20000 < gN l then 2 else if (gR l).length < gN l then 1 else 0
def tT (l : List UInt8) : List UInt8 := if tC l = 0 then (gR l).take (gN l) else []
def tR (l : List UInt8) : List UInt8 := if tC l = 0 then (gR l).drop (gN l) else []
theorem putC_yes {n : Int} (h : 0 ≤ n ∧ n ≤ 1099511627776) : putC n = 0 ∧ putL n = num n.toNat := by simp [putC, putL, h]
theorem putC_no {n : Int} (h : ¬ (0 ≤ n ∧ n ≤ 1099511627776)) : putC n = 2 ∧ putL n = [] := by
  constructor
  · unfold putC; rw [if_neg h]
  · unfold putL; rw [if_neg h]
theorem ptC_yes {l : List UInt8} (h : l.length ≤ 20000) : ptC l = 0 ∧ ptL l = num l.length ++ l := by simp [ptC, ptL, h]
theorem ptC_no {l : List UInt8} (h : ¬ l.length ≤ 20000) : ptC l = 2 ∧ ptL l = [] := by
  constructor
  · unfold ptC; rw [if_neg h]
  · unfold ptL; rw [if_neg h]
/-- a text is read as it was written, whatever stands behind -/
theorem t_text (l more : List UInt8) (h : l.length ≤ 20000) : tC (num l.length ++ l ++ more) = 0 ∧ tT (num l.length ++ l ++ more) = l ∧ tR (num l.length ++ l ++ more) = more := by
  have hn : l.length ≤ 1099511627776 := by omega
  have h1 := gN_num l.length (l ++ more) hn
  have h2 := gR_num l.length (l ++ more) hn
  have h3 := gC_num l.length (l ++ more) hn
  rw [← List.append_assoc] at h1 h2 h3
  have h0 : tC (num l.length ++ l ++ more) = 0 := by
    unfold tC
    rw [h3, h2, h1, if_neg (by simp), if_neg (by omega), if_neg (by simp)]
  exact ⟨h0, by unfold tT; rw [if_pos h0, h1, h2]; simp, by unfold tR; rw [if_pos h0, h1, h2]; simp⟩
theorem tT_len (l : List UInt8) : (tT l).length ≤ 20000 ∧ (tT l).length ≤ l.length ∧ (tR l).length ≤ l.length := by
  have h1 := gR_len l
  unfold tT tR
  split
  · rename_i h
    unfold tC at h
    split at h
    · omega
    · split at h
      · simp at h
      · split at h
        · simp at h
        · refine ⟨?_, ?_, ?_⟩ <;> simp <;> omega
  · simp
attribute [irreducible] numB num getA getL gN gR gC putC putL ptC ptL tC tT tR
end Go.Proofs.YtppkeophochgiaaGreatDoor
/- Plain laws: the sum of all (CRC-32) over lists of bytes: it is linear, sums join, one bit turned changes it. No program is in sight here. -/
namespace Go.Proofs.YtppkeophochgiaaGreatDoor
open Go.RowKit

def cs (c : Nat) : Nat := if c % 2 = 1 then (c / 2) ^^^ 3988292384 else c / 2
def citer : Nat → Nat → Nat
  | 0, c => c
  | n + 1, c => citer n (cs c)
def cf (c : Nat) (b : UInt8) : Nat := citer 8 (c ^^^ b.toNat)
def craw (c : Nat) (l : List UInt8) : Nat := l.foldl cf c
def cmore (c : Nat) (l : List UInt8) : Nat := craw (c ^^^ 4294967295) l ^^^ 4294967295
def csum (l : List UInt8) : Nat := cmore 0 l

theorem xor_lt32 {a b : Nat} (ha : a < 4294967296) (hb : b < 4294967296) : a ^^^ b < 4294967296 :=
  Nat.xor_lt_two_pow (n := 32) ha hb
theorem xor_rot (a b c : Nat) : (a ^^^ b) ^^^ c = (a ^^^ c) ^^^ b := by rw [Nat.xor_assoc, Nat.xor_comm b c, ← Nat.xor_assoc]
theorem xor_back (a b : Nat) : (a ^^^ b) ^^^ b = a := by rw [Nat.xor_assoc, Nat.xor_self, Nat.xor_zero]
theorem cs_lt {c : Nat} (h : c < 4294967296) : cs c < 4294967296 := by
  unfold cs; split
  · exact xor_lt32 (by omega) (by omega)
  · omega
theorem half_xor (a b : Nat) : (a ^^^ b) / 2 = (a / 2) ^^^ (b / 2) := by
  apply Nat.eq_of_testBit_eq
  intro i
  simp [Nat.testBit_div_two, Nat.testBit_xor]
theorem cs_xor (a b : Nat) : cs (a ^^^ b) = cs a ^^^ cs b := by
  have h2 := half_xor a b
  have h1 : (a ^^^ b) % 2 = (a + b) % 2 := by
    have h : (a ^^^ b) % 2 ^ 1 = a % 2 ^ 1 ^^^ b % 2 ^ 1 := Nat.xor_mod_two_pow
    rw [Nat.pow_one] at h
    rw [h, Nat.add_mod]
    rcases Nat.mod_two_eq_zero_or_one a with ha | ha <;> rcases Nat.mod_two_eq_zero_or_one b with hb | hb <;> rw [ha, hb] <;> rfl
  unfold cs
  rcases Nat.mod_two_eq_zero_or_one a with ha | ha <;> rcases Nat.mod_two_eq_zero_or_one b with hb | hb
  · rw [if_neg (by omega), if_neg (by omega), if_neg (by omega), h2]
  · rw [if_pos (by omega), if_neg (by omega), if_pos (by omega), h2, Nat.xor_assoc]
  · rw [if_pos (by omega), if_pos (by omega), if_neg (by omega), h2, xor_rot]
  · rw [if_neg (by omega), if_pos (by omega), if_pos (by omega), h2]
    rw [← Nat.xor_assoc, xor_rot (a / 2), xor_back]
theorem cs_zero {d : Nat} (h : d < 4294967296) (h0 : cs d = 0) : d = 0 := by
  unfold cs at h0
  split at h0
  · have : d / 2 = 3988292384 := by
      have := congrArg (· ^^^ 3988292384) h0
      simp only [xor_back, Nat.zero_xor] at this
      exact this
    omega
  · omega
theorem citer_lt (n : Nat) : ∀ {c : Nat}, c < 4294967296 → citer n c < 4294967296 := by
  induction n with
  | zero => exact fun h => h
  | succ n ih => exact fun h => ih (cs_lt h)
theorem citer_xor (n : Nat) : ∀ a b : Nat, citer n (a ^^^ b) = citer n a ^^^ citer n b := by
  induction n with
  | zero => exact fun _ _ => rfl
  | succ n ih => exact fun a b => by simp only [citer, cs_xor, ih]
theorem citer_add (m n : Nat) : ∀ c : Nat, citer (m + n) c = citer n (citer m c) := by
  induction m with
  | zero => intro c; simp [citer]
  | succ m ih => intro c; rw [Nat.succ_add]; simp only [citer, ih]
theorem citer_succ (n c : Nat) : citer (n + 1) c = cs (citer n c) := by rw [citer_add]; rfl
theorem citer_zero (n : Nat) : ∀ {d : Nat}, d < 4294967296 → citer n d = 0 → d = 0 := by
  induction n with
  | zero => exact fun _ h => h
  | succ n ih => exact fun h h0 => cs_zero h (ih (cs_lt h) h0)

theorem byte_lt (b : UInt8) : b.toNat < 4294967296 := by have := b.toNat_lt; omega
theorem cf_lt {c : Nat} (h : c < 4294967296) (b : UInt8) : cf c b < 4294967296 := citer_lt 8 (xor_lt32 h (byte_lt b))
theorem craw_lt (l : List UInt8) : ∀ {c : Nat}, c < 4294967296 → craw c l < 4294967296 := by
  induction l with
  | nil => exact fun h => h
  | cons b l ih => exact fun h => ih (cf_lt h b)
theorem craw_append (c : Nat) (s t : List UInt8) : craw c (s ++ t) = craw (craw c s) t := by simp [craw]
theorem craw_snoc (c : Nat) (s : List UInt8) (b : UInt8) : craw c (s ++ [b]) = cf (craw c s) b := by simp [craw]
theorem cf_xor (a d : Nat) (b : UInt8) : cf (a ^^^ d) b = cf a b ^^^ citer 8 d := by
  unfold cf; rw [xor_rot, citer_xor]
theorem craw_xor (l : List UInt8) : ∀ a d : Nat, craw (a ^^^ d) l = craw a l ^^^ citer (8 * l.length) d := by
  induction l with
  | nil => exact fun _ _ => rfl
  | cons b l ih =>
    intro a d
    show craw (cf (a ^^^ d) b) l = craw (cf a b) l ^^^ _
    rw [cf_xor, ih, ← citer_add, List.length_cons, show 8 + 8 * l.length = 8 * (l.length + 1) by omega]

theorem cmore_lt {c : Nat} (h : c < 4294967296) (l : List UInt8) : cmore c l < 4294967296 :=
  xor_lt32 (craw_lt l (xor_lt32 h (by omega))) (by omega)
theorem csum_lt (l : List UInt8) : csum l < 4294967296 := cmore_lt (by omega) l
/-- one bit (or more) of one byte turned -/
theorem csum_flip (pre post : List UInt8) (b x : UInt8) : csum (pre ++ (b ^^^ x) :: post) = csum (pre ++ b :: post) ^^^ citer (8 * post.length) (citer 8 x.toNat) := by
  have h : ∀ c : Nat, cf c (b ^^^ x) = cf c b ^^^ citer 8 x.toNat := by
    intro c
    unfold cf
    rw [UInt8.toNat_xor, ← Nat.xor_assoc, citer_xor]
  unfold csum cmore
  rw [craw_append, craw_append]
  show craw (cf _ (b ^^^ x)) post ^^^ _ = (craw (cf _ b) post ^^^ _) ^^^ _
  rw [h, craw_xor, xor_rot]
theorem csum_flip_ne (pre post : List UInt8) (b x : UInt8) (hx : x.toNat ≠ 0) : csum (pre ++ (b ^^^ x) :: post) ≠ csum (pre ++ b :: post) := by
  rw [csum_flip]
  intro h
  have h2 := congrArg (csum (pre ++ b :: post) ^^^ ·) h
  simp only [← Nat.xor_assoc, Nat.xor_self, Nat.zero_xor] at h2
  exact hx (citer_zero 8 (byte_lt x) (citer_zero _ (citer_lt 8 (byte_lt x)) h2))
theorem flip_shape (l : List UInt8) (p : Nat) (x : UInt8) (h : p < l.length) : l.set p (l[p] ^^^ x) = l.take p ++ (l[p] ^^^ x) :: l.drop (p + 1) ∧ l = l.take p ++ l[p] :: l.drop (p + 1) := by
  constructor
  · rw [List.set_eq_take_append_cons_drop, if_pos h]
  · rw [← List.drop_eq_getElem_cons h, List.take_append_drop]

/-! the table of bits -/
/-- one bit more is one step of the division -/
theorem cs_walk (c : Nat) (h : c < 4294967296) : bits .xor .u32 ((c : Int) / 2) (3988292384 * bits .and .u32 (c : Int) 1 % 4294967296) = (cs c : Int) := by
  have h1 := u32_and_nat c 1 h (by omega)
  rw [show ((1 : Nat) : Int) = 1 from rfl] at h1
  rw [h1, nat_mask1]
  have h2 : ((c : Int) / 2) = ((c / 2 : Nat) : Int) := rfl
  rw [h2]
  unfold cs
  split
  · rename_i hc
    rw [hc]
    exact u32_xor_nat (c / 2) 3988292384 (by omega) (by omega)
  · rename_i hc
    have hc0 : c % 2 = 0 := by omega
    rw [hc0]
    have := u32_xor_nat (c / 2) 0 (by omega) (by omega)
    simpa using this
theorem not_walk (c : Nat) (h : c < 4294967296) : bits .xor .u32 IntKind.u32.max (c : Int) = ((c ^^^ 4294967295 : Nat) : Int) := by
  have := u32_xor_nat 4294967295 c (by omega) h
  rw [Nat.xor_comm] at this
  exact this
attribute [irreducible] cs citer cf craw cmore csum
end Go.Proofs.YtppkeophochgiaaGreatDoor
/- Plain laws: blocks of a file, as their sums. No program is in sight here. -/
namespace Go.Proofs.YtppkeophochgiaaGreatDoor
open Go.RowKit

/-- what stands at a place of rows of k cells -/
theorem flat_get {α : Type} (f : α → List Value) (k : Nat) (hf : ∀ a, (f a).length = k) : ∀ (l : List α) (i j : Nat) (hi : i < l.length), j < k → (l.flatMap f)[i * k + j]? = (f l[i])[j]?
  | [], i, j, hi, _ => by simp at hi
  | a :: l, 0, j, _, hj => by
    simp only [List.flatMap_cons, Nat.zero_mul, Nat.zero_add, List.getElem_cons_zero]
    rw [List.getElem?_append_left (by rw [hf]; exact hj)]
  | a :: l, i + 1, j, hi, hj => by
    simp only [List.flatMap_cons, List.getElem_cons_succ]
    have e : (i + 1) * k + j = k + (i * k + j) := by rw [Nat.add_mul]; omega
    rw [e, List.getElem?_append_right (by rw [hf]; omega), hf]
    have e2 : k + (i * k + j) - k = i * k + j := by omega
    rw [e2]
    exact flat_get f k hf l i j (by simpa using hi) hj
theorem flat_len {α : Type} (f : α → List Value) (k : Nat) (hf : ∀ a, (f a).length = k) (l : List α) : (l.flatMap f).length = l.length * k := by
  induction l with
  | nil => simp
  | cons a l ih => simp only [List.flatMap_cons, List.length_append, hf, ih, List.length_cons, Nat.add_mul]; omega

/-- a block as its sums -/
structure Blk where
  N : Int
  W : Int
  S : Nat
deriving DecidableEq
def Blk.cells (b : Blk) : List Value := [.int .i64 b.N, .int .i64 b.W, .int .u32 b.S]
theorem Blk.cells_len (b : Blk) : b.cells.length = 3 := rfl
def bcells (l : List Blk) : List Value := l.flatMap Blk.cells
theorem bcells_len (l : List Blk) : (bcells l).length = l.length * 3 := flat_len _ 3 Blk.cells_len l
theorem bcells_get (l : List Blk) (i : Nat) (hi : i < l.length) : (bcells l)[i * 3]? = some (.int .i64 l[i].N) ∧ (bcells l)[i * 3 + 1]? = some (.int .i64 l[i].W) ∧ (bcells l)[i * 3 + 2]? = some (.int .u32 l[i].S) :=
  ⟨flat_get _ 3 Blk.cells_len l i 0 hi (by omega), flat_get _ 3 Blk.cells_len l i 1 hi (by omega), flat_get _ 3 Blk.cells_len l i 2 hi (by omega)⟩
theorem bcells_append (a b : List Blk) : bcells (a ++ b) = bcells a ++ bcells b := by simp [bcells]
theorem bcells_one (b : Blk) : bcells [b] = b.cells := by simp [bcells]
theorem bcells_nil : bcells [] = [] := rfl
theorem bcells_cell (l : List Blk) : ∀ u ∈ bcells l, u.oneCell' = true := by
  intro u hu
  obtain ⟨b, _, hb⟩ := List.mem_flatMap.1 hu
  simp [Blk.cells] at hb
  rcases hb with rfl | rfl | rfl <;> rfl

def blk (l : List UInt8) : Blk := ⟨l.length, ws l, csum l⟩
theorem blk_is (l : List UInt8) : blk l = ⟨l.length, ws l, csum l⟩ := rfl
/-- the first j blocks of a file -/
def blksN (size : Nat) (l : List UInt8) (j : Nat) : List Blk := (List.range j).map fun i => blk ((l.drop (i * size)).take size)
def cntOf (size len : Nat) : Nat := (len + size - 1) / size
def blks (size : Nat) (l : List UInt8) : List Blk := blksN size l (cntOf size l.length)
theorem blksN_len (size : Nat) (l : List UInt8) (j : Nat) : (blksN size l j).length = j := by simp [blksN]
theorem blks_len (size : Nat) (l : List UInt8) : (blks size l).length = cntOf size l.length := blksN_len _ _ _
theorem blksN_succ (size : Nat) (l : List UInt8) (j : Nat) : blksN size l (j + 1) = blksN size l j ++ [blk ((l.drop (j * size)).take size)] := by simp [blksN, List.range_succ]
theorem blksN_zero (size : Nat) (l : List UInt8) : blksN size l 0 = [] := rfl
theorem cnt_is {size len j : Nat} (h1 : len ≤ j * size) (h2 : j * size < len + size) : cntOf size len = j := by
  unfold cntOf
  refine Nat.div_eq_of_lt_le ?_ ?_
  · omega
  · rw [Nat.add_mul]; omega
theorem cnt_le (size len : Nat) (hs : 0 < size) : cntOf size len ≤ len := by
  unfold cntOf
  by_cases h : len = 0
  · subst h; rw [Nat.div_eq_of_lt (by omega)]; omega
  · refine Nat.div_le_of_le_mul ?_
    have := Nat.mul_le_mul_right len (show 1 ≤ size by omega)
    have h3 : len + size ≤ size * len + 1 := by
      have h4 : (size - 1) * (len - 1) + (size - 1) + (len - 1) + 1 = size * len := by
        obtain ⟨a, rfl⟩ : ∃ a, size = a + 1 := ⟨size - 1, by omega⟩
        obtain ⟨b, rfl⟩ : ∃ b, len = b + 1 := ⟨len - 1, by omega⟩
        simp only [Nat.add_sub_cancel, Nat.add_mul, Nat.mul_add]; omega
      omega
    omega

/-- a size of blocks -/
def sizeN (b : Int) : Nat := if b ≤ 16 then 4 else if b ≤ 64 then 8 else if b ≤ 256 then 16 else if b ≤ 1024 then 32 else 64
theorem sizeN_is (b : Int) : sizeN b = 4 ∨ sizeN b = 8 ∨ sizeN b = 16 ∨ sizeN b = 32 ∨ sizeN b = 64 := by
  unfold sizeN; (repeat' split) <;> simp
/-- how long a string's value is -/
def strLen : Value → Nat
  | .string s => s.size
  | _ => 0
theorem strLen_is (s : ByteArray) : strLen (.string s) = s.size := rfl

/-- the first block of a list that is this one -/
def findB : List Blk → Blk → Nat → Int
  | [], _, _ => -1
  | b :: l, x, i => if b = x then i else findB l x (i + 1)
def findI (l : List Blk) (x : Blk) : Int := findB l x 0
theorem findB_cons (b : Blk) (l : List Blk) (x : Blk) (i : Nat) : findB (b :: l) x i = if b = x then (i : Int) else findB l x (i + 1) := rfl
theorem findB_drop_hit (l : List Blk) (x : Blk) (i : Nat) (h : i < l.length) (e : l[i] = x) : findB (l.drop i) x i = i := by
  rw [List.drop_eq_getElem_cons h]; simp [findB, e]
theorem findB_drop_miss (l : List Blk) (x : Blk) (i : Nat) (h : i < l.length) (e : ¬ l[i] = x) : findB (l.drop i) x i = findB (l.drop (i + 1)) x (i + 1) := by
  rw [List.drop_eq_getElem_cons h]; simp [findB, e]
theorem findB_end (l : List Blk) (x : Blk) (i : Nat) (h : l.length ≤ i) : findB (l.drop i) x i = -1 := by
  rw [List.drop_eq_nil_of_le h]; rfl
attribute [irreducible] bcells blk blksN cntOf sizeN findB
end Go.Proofs.YtppkeophochgiaaGreatDoor
