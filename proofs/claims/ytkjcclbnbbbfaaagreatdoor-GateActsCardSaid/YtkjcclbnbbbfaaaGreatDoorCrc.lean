/- Plain laws: the sum of all (CRC-32) over lists of bytes: it is linear, sums join, one bit turned changes it. No program is in sight here. -/
import Derived.Test.YtkjcclbnbbbfaaaGreatDoorPlain
import Derived.Laws.BitsAllLaws
namespace Go.Proofs.YtkjcclbnbbbfaaaGreatDoor
open Go.RowKit

def cs (c : Nat) : Nat := if c % 2 = 1 then (c / 2) ^^^ 3988292384 else c / 2
def citer : Nat → Nat → Nat
  | 0, c => c
  | n + 1, c => citer n (cs c)
def cf (c : Nat) (b : UInt8) : Nat := citer 8 (c ^^^ b.toNat)
def craw (c : Nat) (l : List UInt8) : Nat := l.foldl cf c
def cmore (c : Nat) (l : List UInt8) : Nat := craw (c ^^^ 4294967295) l ^^^ 4294967295
def csum (l : List UInt8) : Nat := cmore 0 l

theorem xor_lt32 {a b : Nat} (ha : a < 4294967296) (hb : b < 4294967296) : a ^^^ b < 4294967296 :=
  Nat.xor_lt_two_pow (n := 32) ha hb
theorem xor_rot (a b c : Nat) : (a ^^^ b) ^^^ c = (a ^^^ c) ^^^ b := by rw [Nat.xor_assoc, Nat.xor_comm b c, ← Nat.xor_assoc]
theorem xor_back (a b : Nat) : (a ^^^ b) ^^^ b = a := by rw [Nat.xor_assoc, Nat.xor_self, Nat.xor_zero]
theorem cs_lt {c : Nat} (h : c < 4294967296) : cs c < 4294967296 := by
  unfold cs; split
  · exact xor_lt32 (by omega) (by omega)
  · omega
theorem half_xor (a b : Nat) : (a ^^^ b) / 2 = (a / 2) ^^^ (b / 2) := by
  apply Nat.eq_of_testBit_eq
  intro i
  simp [Nat.testBit_div_two, Nat.testBit_xor]
theorem cs_xor (a b : Nat) : cs (a ^^^ b) = cs a ^^^ cs b := by
  have h2 := half_xor a b
  have h1 : (a ^^^ b) % 2 = (a + b) % 2 := by
    have h : (a ^^^ b) % 2 ^ 1 = a % 2 ^ 1 ^^^ b % 2 ^ 1 := Nat.xor_mod_two_pow
    rw [Nat.pow_one] at h
    rw [h, Nat.add_mod]
    rcases Nat.mod_two_eq_zero_or_one a with ha | ha <;> rcases Nat.mod_two_eq_zero_or_one b with hb | hb <;> rw [ha, hb] <;> rfl
  unfold cs
  rcases Nat.mod_two_eq_zero_or_one a with ha | ha <;> rcases Nat.mod_two_eq_zero_or_one b with hb | hb
  · rw [if_neg (by omega), if_neg (by omega), if_neg (by omega), h2]
  · rw [if_pos (by omega), if_neg (by omega), if_pos (by omega), h2, Nat.xor_assoc]
  · rw [if_pos (by omega), if_pos (by omega), if_neg (by omega), h2, xor_rot]
  · rw [if_neg (by omega), if_pos (by omega), if_pos (by omega), h2]
    rw [← Nat.xor_assoc, xor_rot (a / 2), xor_back]
theorem cs_zero {d : Nat} (h : d < 4294967296) (h0 : cs d = 0) : d = 0 := by
  unfold cs at h0
  split at h0
  · have : d / 2 = 3988292384 := by
      have := congrArg (· ^^^ 3988292384) h0
      simp only [xor_back, Nat.zero_xor] at this
      exact this
    omega
  · omega
theorem citer_lt (n : Nat) : ∀ {c : Nat}, c < 4294967296 → citer n c < 4294967296 := by
  induction n with
  | zero => exact fun h => h
  | succ n ih => exact fun h => ih (cs_lt h)
theorem citer_xor (n : Nat) : ∀ a b : Nat, citer n (a ^^^ b) = citer n a ^^^ citer n b := by
  induction n with
  | zero => exact fun _ _ => rfl
  | succ n ih => exact fun a b => by simp only [citer, cs_xor, ih]
theorem citer_add (m n : Nat) : ∀ c : Nat, citer (m + n) c = citer n (citer m c) := by
  induction m with
  | zero => intro c; simp [citer]
  | succ m ih => intro c; rw [Nat.succ_add]; simp only [citer, ih]
theorem citer_succ (n c : Nat) : citer (n + 1) c = cs (citer n c) := by rw [citer_add]; rfl
theorem citer_0 (n : Nat) : citer n 0 = 0 := by
  induction n with
  | zero => rfl
  | succ n ih => rw [citer_succ, ih]; rfl
theorem citer_zero (n : Nat) : ∀ {d : Nat}, d < 4294967296 → citer n d = 0 → d = 0 := by
  induction n with
  | zero => exact fun _ h => h
  | succ n ih => exact fun h h0 => cs_zero h (ih (cs_lt h) h0)

theorem byte_lt (b : UInt8) : b.toNat < 4294967296 := by have := b.toNat_lt; omega
theorem cf_lt {c : Nat} (h : c < 4294967296) (b : UInt8) : cf c b < 4294967296 := citer_lt 8 (xor_lt32 h (byte_lt b))
theorem craw_lt (l : List UInt8) : ∀ {c : Nat}, c < 4294967296 → craw c l < 4294967296 := by
  induction l with
  | nil => exact fun h => h
  | cons b l ih => exact fun h => ih (cf_lt h b)
theorem craw_append (c : Nat) (s t : List UInt8) : craw c (s ++ t) = craw (craw c s) t := by simp [craw]
theorem craw_snoc (c : Nat) (s : List UInt8) (b : UInt8) : craw c (s ++ [b]) = cf (craw c s) b := by simp [craw]
theorem cf_xor (a d : Nat) (b : UInt8) : cf (a ^^^ d) b = cf a b ^^^ citer 8 d := by
  unfold cf; rw [xor_rot, citer_xor]
theorem craw_xor (l : List UInt8) : ∀ a d : Nat, craw (a ^^^ d) l = craw a l ^^^ citer (8 * l.length) d := by
  induction l with
  | nil => exact fun _ _ => rfl
  | cons b l ih =>
    intro a d
    show craw (cf (a ^^^ d) b) l = craw (cf a b) l ^^^ _
    rw [cf_xor, ih, ← citer_add, List.length_cons, show 8 + 8 * l.length = 8 * (l.length + 1) by omega]

theorem cmore_lt {c : Nat} (h : c < 4294967296) (l : List UInt8) : cmore c l < 4294967296 :=
  xor_lt32 (craw_lt l (xor_lt32 h (by omega))) (by omega)
theorem csum_lt (l : List UInt8) : csum l < 4294967296 := cmore_lt (by omega) l
theorem cmore_nil (c : Nat) : cmore c [] = c := by
  show (c ^^^ 4294967295) ^^^ 4294967295 = c
  exact xor_back _ _
theorem cmore_append (c : Nat) (s t : List UInt8) : cmore c (s ++ t) = cmore (cmore c s) t := by
  unfold cmore
  rw [craw_append, xor_back]
/-- what is joined is what is summed at once -/
theorem cmore_join (a : Nat) (t : List UInt8) : cmore a t = citer (8 * t.length) a ^^^ csum t := by
  unfold csum cmore
  rw [Nat.xor_comm a, craw_xor, Nat.zero_xor, ← xor_rot, Nat.xor_comm]
theorem csum_append (s t : List UInt8) : csum (s ++ t) = citer (8 * t.length) (csum s) ^^^ csum t := by
  rw [← cmore_join]; exact cmore_append 0 s t

/-- one bit (or more) of one byte turned -/
theorem csum_flip (pre post : List UInt8) (b x : UInt8) : csum (pre ++ (b ^^^ x) :: post) = csum (pre ++ b :: post) ^^^ citer (8 * post.length) (citer 8 x.toNat) := by
  have h : ∀ c : Nat, cf c (b ^^^ x) = cf c b ^^^ citer 8 x.toNat := by
    intro c
    unfold cf
    rw [UInt8.toNat_xor, ← Nat.xor_assoc, citer_xor]
  unfold csum cmore
  rw [craw_append, craw_append]
  show craw (cf _ (b ^^^ x)) post ^^^ _ = (craw (cf _ b) post ^^^ _) ^^^ _
  rw [h, craw_xor, xor_rot]
theorem csum_flip_ne (pre post : List UInt8) (b x : UInt8) (hx : x.toNat ≠ 0) : csum (pre ++ (b ^^^ x) :: post) ≠ csum (pre ++ b :: post) := by
  rw [csum_flip]
  intro h
  have h2 := congrArg (csum (pre ++ b :: post) ^^^ ·) h
  simp only [← Nat.xor_assoc, Nat.xor_self, Nat.zero_xor] at h2
  exact hx (citer_zero 8 (byte_lt x) (citer_zero _ (citer_lt 8 (byte_lt x)) h2))
theorem flip_shape (l : List UInt8) (p : Nat) (x : UInt8) (h : p < l.length) : l.set p (l[p] ^^^ x) = l.take p ++ (l[p] ^^^ x) :: l.drop (p + 1) ∧ l = l.take p ++ l[p] :: l.drop (p + 1) := by
  constructor
  · rw [List.set_eq_take_append_cons_drop, if_pos h]
  · rw [← List.drop_eq_getElem_cons h, List.take_append_drop]

/-! the table of bits -/
def ctimes (m : Nat → Nat) (c : Nat) : Nat → Nat
  | 0 => 0
  | k + 1 => if c / 2 ^ k % 2 = 1 then ctimes m c k ^^^ m k else ctimes m c k
theorem low_succ (c k : Nat) : c % 2 ^ (k + 1) = c % 2 ^ k ^^^ (if c / 2 ^ k % 2 = 1 then 2 ^ k else 0) := by
  apply Nat.eq_of_testBit_eq
  intro i
  have hb : c.testBit k = decide (c / 2 ^ k % 2 = 1) := Nat.testBit_eq_decide_div_mod_eq
  split
  · rename_i h
    simp only [h, decide_true] at hb
    rw [Nat.testBit_xor, Nat.testBit_mod_two_pow, Nat.testBit_mod_two_pow, Nat.testBit_two_pow]
    by_cases hik : i = k
    · subst hik; simp [hb]
    · have h1 : decide (i < k + 1) = decide (i < k) := by simp; omega
      have h2 : decide (k = i) = false := by simp; omega
      rw [h1, h2]; simp
  · rename_i h
    simp only [h, decide_false] at hb
    rw [Nat.xor_zero, Nat.testBit_mod_two_pow, Nat.testBit_mod_two_pow]
    by_cases hik : i = k
    · subst hik; simp [hb]
    · have h1 : decide (i < k + 1) = decide (i < k) := by simp; omega
      rw [h1]
theorem ctimes_succ (m : Nat → Nat) (c k : Nat) : ctimes m c (k + 1) = if c / 2 ^ k % 2 = 1 then ctimes m c k ^^^ m k else ctimes m c k := rfl
theorem ctimes_low (n : Nat) (m : Nat → Nat) (c : Nat) : ∀ k, (∀ i, i < k → m i = citer n (2 ^ i)) → ctimes m c k = citer n (c % 2 ^ k) := by
  intro k
  induction k with
  | zero => intro _; simp [ctimes, Nat.mod_one, citer_0]
  | succ k ih =>
    intro h
    rw [low_succ, citer_xor, ← ih (fun i hi => h i (by omega)), ctimes_succ]
    split
    · rw [h k (by omega)]
    · rw [citer_0, Nat.xor_zero]
theorem ctimes_all (n : Nat) (m : Nat → Nat) (c : Nat) (hc : c < 4294967296) (h : ∀ i, i < 32 → m i = citer n (2 ^ i)) : ctimes m c 32 = citer n c := by
  rw [ctimes_low n m c 32 h, Nat.mod_eq_of_lt (by simpa using hc)]

/-- one bit more is one step of the division -/
theorem cs_walk (c : Nat) (h : c < 4294967296) : bits .xor .u32 ((c : Int) / 2) (3988292384 * bits .and .u32 (c : Int) 1 % 4294967296) = (cs c : Int) := by
  have h1 := u32_and_nat c 1 h (by omega)
  rw [show ((1 : Nat) : Int) = 1 from rfl] at h1
  rw [h1, nat_mask1]
  have h2 : ((c : Int) / 2) = ((c / 2 : Nat) : Int) := rfl
  rw [h2]
  unfold cs
  split
  · rename_i hc
    rw [hc]
    exact u32_xor_nat (c / 2) 3988292384 (by omega) (by omega)
  · rename_i hc
    have hc0 : c % 2 = 0 := by omega
    rw [hc0]
    have := u32_xor_nat (c / 2) 0 (by omega) (by omega)
    simpa using this
theorem ctimes_lt (m : Nat → Nat) (c : Nat) : ∀ k, (∀ i, i < k → m i < 4294967296) → ctimes m c k < 4294967296 := by
  intro k
  induction k with
  | zero => intro _; simp [ctimes]
  | succ k ih =>
    intro h
    have h1 := ih (fun i hi => h i (by omega))
    rw [ctimes_succ]
    split
    · exact xor_lt32 h1 (h k (by omega))
    · exact h1
theorem bit_walk (c j : Nat) (h : c < 4294967296) : bits .and .u32 ((c : Int) / 2 ^ j) 1 = ((c / 2 ^ j % 2 : Nat) : Int) := by
  have h1 := u32_and_nat (c / 2 ^ j) 1 (by have := Nat.div_le_self c (2 ^ j); omega) (by omega)
  rw [nat_mask1] at h1
  rw [← h1]
  simp
theorem not_walk (c : Nat) (h : c < 4294967296) : bits .xor .u32 IntKind.u32.max (c : Int) = ((c ^^^ 4294967295 : Nat) : Int) := by
  have := u32_xor_nat 4294967295 c (by omega) h
  rw [Nat.xor_comm] at this
  exact this
theorem ofInt_64 (a : Nat) (ha : a < 9223372036854775808) : (BitVec.ofInt 64 (a : Int)).toNat = a := by
  rw [BitVec.ofInt_natCast, BitVec.toNat_ofNat]; exact Nat.mod_eq_of_lt (by omega)
theorem i64_xor_nat (a b : Nat) (ha : a < 4294967296) (hb : b < 4294967296) : bits .xor .i64 (a : Int) (b : Int) = ((a ^^^ b : Nat) : Int) := by
  have hx := xor_lt32 ha hb
  show IntKind.i64.wrap ((BitVec.ofInt 64 (a : Int) ^^^ BitVec.ofInt 64 (b : Int)).toNat : Int) = _
  rw [BitVec.toNat_xor, ofInt_64 a (by omega), ofInt_64 b (by omega)]
  simp only [IntKind.wrap, IntKind.bits, IntKind.signed]
  simp
  omega
attribute [irreducible] cs citer cf craw cmore csum ctimes
end Go.Proofs.YtkjcclbnbbbfaaaGreatDoor
