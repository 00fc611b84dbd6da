/- Texts of one proof, one behind the other: Crc, BlkPlain, ChkPlain, OpPlain. -/
import Derived.Test.YtdpoalbbcmkceaaGreatDoorB01
import Derived.Laws.BitsAllLaws
/- Plain laws: the sum of all (CRC-32) over lists of bytes: it is linear, sums join, one bit turned changes it. No program is in sight here. -/
namespace Go.Proofs.YtdpoalbbcmkceaaGreatDoor
open Go.RowKit

def cs (c : Nat) : Nat := if c % 2 = 1 then (c / 2) ^^^ 3988292384 else c / 2
def citer : Nat → Nat → Nat
  | 0, c => c
  | n + 1, c => citer n (cs c)
def cf (c : Nat) (b : UInt8) : Nat := citer 8 (c ^^^ b.toNat)
def craw (c : Nat) (l : List UInt8) : Nat := l.foldl cf c
def cmore (c : Nat) (l : List UInt8) : Nat := craw (c ^^^ 4294967295) l ^^^ 4294967295
def csum (l : List UInt8) : Nat := cmore 0 l

theorem xor_lt32 {a b : Nat} (ha : a < 4294967296) (hb : b < 4294967296) : a ^^^ b < 4294967296 :=
  Nat.xor_lt_two_pow (n := 32) ha hb
theorem xor_rot (a b c : Nat) : (a ^^^ b) ^^^ c = (a ^^^ c) ^^^ b := by rw [Nat.xor_assoc, Nat.xor_comm b c, ← Nat.xor_assoc]
theorem xor_back (a b : Nat) : (a ^^^ b) ^^^ b = a := by rw [Nat.xor_assoc, Nat.xor_self, Nat.xor_zero]
theorem cs_lt {c : Nat} (h : c < 4294967296) : cs c < 4294967296 := by
  unfold cs; split
  · exact xor_lt32 (by omega) (by omega)
  · omega
theorem half_xor (a b : Nat) : (a ^^^ b) / 2 = (a / 2) ^^^ (b / 2) := by
  apply Nat.eq_of_testBit_eq
  intro i
  simp [Nat.testBit_div_two, Nat.testBit_xor]
theorem cs_xor (a b : Nat) : cs (a ^^^ b) = cs a ^^^ cs b := by
  have h2 := half_xor a b
  have h1 : (a ^^^ b) % 2 = (a + b) % 2 := by
    have h : (a ^^^ b) % 2 ^ 1 = a % 2 ^ 1 ^^^ b % 2 ^ 1 := Nat.xor_mod_two_pow
    rw [Nat.pow_one] at h
    rw [h, Nat.add_mod]
    rcases Nat.mod_two_eq_zero_or_one a with ha | ha <;> rcases Nat.mod_two_eq_zero_or_one b with hb | hb <;> rw [ha, hb] <;> rfl
  unfold cs
  rcases Nat.mod_two_eq_zero_or_one a with ha | ha <;> rcases Nat.mod_two_eq_zero_or_one b with hb | hb
  · rw [if_neg (by omega), if_neg (by omega), if_neg (by omega), h2]
  · rw [if_pos (by omega), if_neg (by omega), if_pos (by omega), h2, Nat.xor_assoc]
  · rw [if_pos (by omega), if_pos (by omega), if_neg (by omega), h2, xor_rot]
  · rw [if_neg (by omega), if_pos (by omega), if_pos (by omega), h2]
    rw [← Nat.xor_assoc, xor_rot (a / 2), xor_back]
theorem cs_zero {d : Nat} (h : d < 4294967296) (h0 : cs d = 0) : d = 0 := by
  unfold cs at h0
  split at h0
  · have : d / 2 = 3988292384 := by
      have := congrArg (· ^^^ 3988292384) h0
      simp only [xor_back, Nat.zero_xor] at this
      exact this
    omega
  · omega
theorem citer_lt (n : Nat) : ∀ {c : Nat}, c < 4294967296 → citer n c < 4294967296 := by
  induction n with
  | zero => exact fun h => h
  | succ n ih => exact fun h => ih (cs_lt h)
theorem citer_xor (n : Nat) : ∀ a b : Nat, citer n (a ^^^ b) = citer n a ^^^ citer n b := by
  induction n with
  | zero => exact fun _ _ => rfl
  | succ n ih => exact fun a b => by simp only [citer, cs_xor, ih]
theorem citer_add (m n : Nat) : ∀ c : Nat, citer (m + n) c = citer n (citer m c) := by
  induction m with
  | zero => intro c; simp [citer]
  | succ m ih => intro c; rw [Nat.succ_add]; simp only [citer, ih]
theorem citer_succ (n c : Nat) : citer (n + 1) c = cs (citer n c) := by rw [citer_add]; rfl
theorem citer_0 (n : Nat) : citer n 0 = 0 := by
  induction n with
  | zero => rfl
  | succ n ih => rw [citer_succ, ih]; rfl
theorem citer_zero (n : Nat) : ∀ {d : Nat}, d < 4294967296 → citer n d = 0 → d = 0 := by
  induction n with
  | zero => exact fun _ h => h
  | succ n ih => exact fun h h0 => cs_zero h (ih (cs_lt h) h0)

theorem byte_lt (b : UInt8) : b.toNat < 4294967296 := by have := b.toNat_lt; omega
theorem cf_lt {c : Nat} (h : c < 4294967296) (b : UInt8) : cf c b < 4294967296 := citer_lt 8 (xor_lt32 h (byte_lt b))
theorem craw_lt (l : List UInt8) : ∀ {c : Nat}, c < 4294967296 → craw c l < 4294967296 := by
  induction l with
  | nil => exact fun h => h
  | cons b l ih => exact fun h => ih (cf_lt h b)
theorem craw_append (c : Nat) (s t : List UInt8) : craw c (s ++ t) = craw (craw c s) t := by simp [craw]
theorem craw_snoc (c : Nat) (s : List UInt8) (b : UInt8) : craw c (s ++ [b]) = cf (craw c s) b := by simp [craw]
theorem cf_xor (a d : Nat) (b : UInt8) : cf (a ^^^ d) b = cf a b ^^^ citer 8 d := by
  unfold cf; rw [xor_rot, citer_xor]
theorem craw_xor (l : List UInt8) : ∀ a d : Nat, craw (a ^^^ d) l = craw a l ^^^ citer (8 * l.length) d := by
  induction l with
  | nil => exact fun _ _ => rfl
  | cons b l ih =>
    intro a d
    show craw (cf (a ^^^ d) b) l = craw (cf a b) l ^^^ _
    rw [cf_xor, ih, ← citer_add, List.length_cons, show 8 + 8 * l.length = 8 * (l.length + 1) by omega]

theorem cmore_lt {c : Nat} (h : c < 4294967296) (l : List UInt8) : cmore c l < 4294967296 :=
  xor_lt32 (craw_lt l (xor_lt32 h (by omega))) (by omega)
theorem csum_lt (l : List UInt8) : csum l < 4294967296 := cmore_lt (by omega) l
theorem cmore_nil (c : Nat) : cmore c [] = c := by
  show (c ^^^ 4294967295) ^^^ 4294967295 = c
  exact xor_back _ _
theorem cmore_append (c : Nat) (s t : List UInt8) : cmore c (s ++ t) = cmore (cmore c s) t := by
  unfold cmore
  rw [craw_append, xor_back]
/-- what is joined is what is summed at once -/
theorem cmore_join (a : Nat) (t : List UInt8) : cmore a t = citer (8 * t.length) a ^^^ csum t := by
  unfold csum cmore
  rw [Nat.xor_comm a, craw_xor, Nat.zero_xor, ← xor_rot, Nat.xor_comm]
theorem csum_append (s t : List UInt8) : csum (s ++ t) = citer (8 * t.length) (csum s) ^^^ csum t := by
  rw [← cmore_join]; exact cmore_append 0 s t

/-- one bit (or more) of one byte turned -/
theorem csum_flip (pre post : List UInt8) (b x : UInt8) : csum (pre ++ (b ^^^ x) :: post) = csum (pre ++ b :: post) ^^^ citer (8 * post.length) (citer 8 x.toNat) := by
  have h : ∀ c : Nat, cf c (b ^^^ x) = cf c b ^^^ citer 8 x.toNat := by
    intro c
    unfold cf
    rw [UInt8.toNat_xor, ← Nat.xor_assoc, citer_xor]
  unfold csum cmore
  rw [craw_append, craw_append]
  show craw (cf _ (b ^^^ x)) post ^^^ _ = (craw (cf _ b) post ^^^ _) ^^^ _
  rw [h, craw_xor, xor_rot]
theorem csum_flip_ne (pre post : List UInt8) (b x : UInt8) (hx : x.toNat ≠ 0) : csum (pre ++ (b ^^^ x) :: post) ≠ csum (pre ++ b :: post) := by
  rw [csum_flip]
  intro h
  have h2 := congrArg (csum (pre ++ b :: post) ^^^ ·) h
  simp only [← Nat.xor_assoc, Nat.xor_self, Nat.zero_xor] at h2
  exact hx (citer_zero 8 (byte_lt x) (citer_zero _ (citer_lt 8 (byte_lt x)) h2))
theorem flip_shape (l : List UInt8) (p : Nat) (x : UInt8) (h : p < l.length) : l.set p (l[p] ^^^ x) = l.take p ++ (l[p] ^^^ x) :: l.drop (p + 1) ∧ l = l.take p ++ l[p] :: l.drop (p + 1) := by
  constructor
  · rw [List.set_eq_take_append_cons_drop, if_pos h]
  · rw [← List.drop_eq_getElem_cons h, List.take_append_drop]

/-! the table of bits -/
def ctimes (m : Nat → Nat) (c : Nat) : Nat → Nat
  | 0 => 0
  | k + 1 => if c / 2 ^ k % 2 = 1 then ctimes m c k ^^^ m k else ctimes m c k
theorem low_succ (c k : Nat) : c % 2 ^ (k + 1) = c % 2 ^ k ^^^ (if c / 2 ^ k % 2 = 1 then 2 ^ k else 0) := by
  apply Nat.eq_of_testBit_eq
  intro i
  have hb : c.testBit k = decide (c / 2 ^ k % 2 = 1) := Nat.testBit_eq_decide_div_mod_eq
  split
  · rename_i h
    simp only [h, decide_true] at hb
    rw [Nat.testBit_xor, Nat.testBit_mod_two_pow, Nat.testBit_mod_two_pow, Nat.testBit_two_pow]
    by_cases hik : i = k
    · subst hik; simp [hb]
    · have h1 : decide (i < k + 1) = decide (i < k) := by simp; omega
      have h2 : decide (k = i) = false := by simp; omega
      rw [h1, h2]; simp
  · rename_i h
    simp only [h, decide_false] at hb
    rw [Nat.xor_zero, Nat.testBit_mod_two_pow, Nat.testBit_mod_two_pow]
    by_cases hik : i = k
    · subst hik; simp [hb]
    · have h1 : decide (i < k + 1) = decide (i < k) := by simp; omega
      rw [h1]
theorem ctimes_succ (m : Nat → Nat) (c k : Nat) : ctimes m c (k + 1) = if c / 2 ^ k % 2 = 1 then ctimes m c k ^^^ m k else ctimes m c k := rfl
theorem ctimes_low (n : Nat) (m : Nat → Nat) (c : Nat) : ∀ k, (∀ i, i < k → m i = citer n (2 ^ i)) → ctimes m c k = citer n (c % 2 ^ k) := by
  intro k
  induction k with
  | zero => intro _; simp [ctimes, Nat.mod_one, citer_0]
  | succ k ih =>
    intro h
    rw [low_succ, citer_xor, ← ih (fun i hi => h i (by omega)), ctimes_succ]
    split
    · rw [h k (by omega)]
    · rw [citer_0, Nat.xor_zero]
theorem ctimes_all (n : Nat) (m : Nat → Nat) (c : Nat) (hc : c < 4294967296) (h : ∀ i, i < 32 → m i = citer n (2 ^ i)) : ctimes m c 32 = citer n c := by
  rw [ctimes_low n m c 32 h, Nat.mod_eq_of_lt (by simpa using hc)]

/-- one bit more is one step of the division -/
theorem cs_walk (c : Nat) (h : c < 4294967296) : bits .xor .u32 ((c : Int) / 2) (3988292384 * bits .and .u32 (c : Int) 1 % 4294967296) = (cs c : Int) := by
  have h1 := u32_and_nat c 1 h (by omega)
  rw [show ((1 : Nat) : Int) = 1 from rfl] at h1
  rw [h1, nat_mask1]
  have h2 : ((c : Int) / 2) = ((c / 2 : Nat) : Int) := rfl
  rw [h2]
  unfold cs
  split
  · rename_i hc
    rw [hc]
    exact u32_xor_nat (c / 2) 3988292384 (by omega) (by omega)
  · rename_i hc
    have hc0 : c % 2 = 0 := by omega
    rw [hc0]
    have := u32_xor_nat (c / 2) 0 (by omega) (by omega)
    simpa using this
theorem ctimes_lt (m : Nat → Nat) (c : Nat) : ∀ k, (∀ i, i < k → m i < 4294967296) → ctimes m c k < 4294967296 := by
  intro k
  induction k with
  | zero => intro _; simp [ctimes]
  | succ k ih =>
    intro h
    have h1 := ih (fun i hi => h i (by omega))
    rw [ctimes_succ]
    split
    · exact xor_lt32 h1 (h k (by omega))
    · exact h1
theorem bit_walk (c j : Nat) (h : c < 4294967296) : bits .and .u32 ((c : Int) / 2 ^ j) 1 = ((c / 2 ^ j % 2 : Nat) : Int) := by
  have h1 := u32_and_nat (c / 2 ^ j) 1 (by have := Nat.div_le_self c (2 ^ j); omega) (by omega)
  rw [nat_mask1] at h1
  rw [← h1]
  simp
theorem not_walk (c : Nat) (h : c < 4294967296) : bits .xor .u32 IntKind.u32.max (c : Int) = ((c ^^^ 4294967295 : Nat) : Int) := by
  have := u32_xor_nat 4294967295 c (by omega) h
  rw [Nat.xor_comm] at this
  exact this
theorem ofInt_64 (a : Nat) (ha : a < 9223372036854775808) : (BitVec.ofInt 64 (a : Int)).toNat = a := by
  rw [BitVec.ofInt_natCast, BitVec.toNat_ofNat]; exact Nat.mod_eq_of_lt (by omega)
theorem i64_xor_nat (a b : Nat) (ha : a < 4294967296) (hb : b < 4294967296) : bits .xor .i64 (a : Int) (b : Int) = ((a ^^^ b : Nat) : Int) := by
  have hx := xor_lt32 ha hb
  show IntKind.i64.wrap ((BitVec.ofInt 64 (a : Int) ^^^ BitVec.ofInt 64 (b : Int)).toNat : Int) = _
  rw [BitVec.toNat_xor, ofInt_64 a (by omega), ofInt_64 b (by omega)]
  simp only [IntKind.wrap, IntKind.bits, IntKind.signed]
  simp
  omega
attribute [irreducible] cs citer cf craw cmore csum ctimes
end Go.Proofs.YtdpoalbbcmkceaaGreatDoor
/- Plain laws: blocks of a file, as their sums. No program is in sight here. -/
namespace Go.Proofs.YtdpoalbbcmkceaaGreatDoor
open Go.RowKit

/-- what stands at a place of rows of k cells -/
theorem flat_get {α : Type} (f : α → List Value) (k : Nat) (hf : ∀ a, (f a).length = k) : ∀ (l : List α) (i j : Nat) (hi : i < l.length), j < k → (l.flatMap f)[i * k + j]? = (f l[i])[j]?
  | [], i, j, hi, _ => by simp at hi
  | a :: l, 0, j, _, hj => by
    simp only [List.flatMap_cons, Nat.zero_mul, Nat.zero_add, List.getElem_cons_zero]
    rw [List.getElem?_append_left (by rw [hf]; exact hj)]
  | a :: l, i + 1, j, hi, hj => by
    simp only [List.flatMap_cons, List.getElem_cons_succ]
    have e : (i + 1) * k + j = k + (i * k + j) := by rw [Nat.add_mul]; omega
    rw [e, List.getElem?_append_right (by rw [hf]; omega), hf]
    have e2 : k + (i * k + j) - k = i * k + j := by omega
    rw [e2]
    exact flat_get f k hf l i j (by simpa using hi) hj
theorem flat_len {α : Type} (f : α → List Value) (k : Nat) (hf : ∀ a, (f a).length = k) (l : List α) : (l.flatMap f).length = l.length * k := by
  induction l with
  | nil => simp
  | cons a l ih => simp only [List.flatMap_cons, List.length_append, hf, ih, List.length_cons, Nat.add_mul]; omega

/-- a block as its sums -/
structure Blk where
  N : Int
  W : Int
  S : Nat
deriving DecidableEq
def Blk.cells (b : Blk) : List Value := [.int .i64 b.N, .int .i64 b.W, .int .u32 b.S]
theorem Blk.cells_len (b : Blk) : b.cells.length = 3 := rfl
def bcells (l : List Blk) : List Value := l.flatMap Blk.cells
theorem bcells_len (l : List Blk) : (bcells l).length = l.length * 3 := flat_len _ 3 Blk.cells_len l
theorem bcells_get (l : List Blk) (i : Nat) (hi : i < l.length) : (bcells l)[i * 3]? = some (.int .i64 l[i].N) ∧ (bcells l)[i * 3 + 1]? = some (.int .i64 l[i].W) ∧ (bcells l)[i * 3 + 2]? = some (.int .u32 l[i].S) :=
  ⟨flat_get _ 3 Blk.cells_len l i 0 hi (by omega), flat_get _ 3 Blk.cells_len l i 1 hi (by omega), flat_get _ 3 Blk.cells_len l i 2 hi (by omega)⟩
theorem bcells_append (a b : List Blk) : bcells (a ++ b) = bcells a ++ bcells b := by simp [bcells]
theorem bcells_one (b : Blk) : bcells [b] = b.cells := by simp [bcells]
theorem bcells_nil : bcells [] = [] := rfl
theorem bcells_cons (b : Blk) (l : List Blk) : bcells (b :: l) = b.cells ++ bcells l := by simp [bcells]
theorem bcells_cell (l : List Blk) : ∀ u ∈ bcells l, u.oneCell' = true := by
  intro u hu
  obtain ⟨b, _, hb⟩ := List.mem_flatMap.1 hu
  simp [Blk.cells] at hb
  rcases hb with rfl | rfl | rfl <;> rfl

def blk (l : List UInt8) : Blk := ⟨l.length, ws l, csum l⟩
theorem blk_is (l : List UInt8) : blk l = ⟨l.length, ws l, csum l⟩ := rfl
/-- the first j blocks of a file -/
def blksN (size : Nat) (l : List UInt8) (j : Nat) : List Blk := (List.range j).map fun i => blk ((l.drop (i * size)).take size)
def cntOf (size len : Nat) : Nat := (len + size - 1) / size
def blks (size : Nat) (l : List UInt8) : List Blk := blksN size l (cntOf size l.length)
theorem blksN_len (size : Nat) (l : List UInt8) (j : Nat) : (blksN size l j).length = j := by simp [blksN]
theorem blks_len (size : Nat) (l : List UInt8) : (blks size l).length = cntOf size l.length := blksN_len _ _ _
theorem blksN_succ (size : Nat) (l : List UInt8) (j : Nat) : blksN size l (j + 1) = blksN size l j ++ [blk ((l.drop (j * size)).take size)] := by simp [blksN, List.range_succ]
theorem blksN_zero (size : Nat) (l : List UInt8) : blksN size l 0 = [] := rfl
theorem cnt_is {size len j : Nat} (h1 : len ≤ j * size) (h2 : j * size < len + size) : cntOf size len = j := by
  unfold cntOf
  refine Nat.div_eq_of_lt_le ?_ ?_
  · omega
  · rw [Nat.add_mul]; omega
theorem cnt_le (size len : Nat) (hs : 0 < size) : cntOf size len ≤ len := by
  unfold cntOf
  by_cases h : len = 0
  · subst h; rw [Nat.div_eq_of_lt (by omega)]; omega
  · refine Nat.div_le_of_le_mul ?_
    have := Nat.mul_le_mul_right len (show 1 ≤ size by omega)
    have h3 : len + size ≤ size * len + 1 := by
      have h4 : (size - 1) * (len - 1) + (size - 1) + (len - 1) + 1 = size * len := by
        obtain ⟨a, rfl⟩ : ∃ a, size = a + 1 := ⟨size - 1, by omega⟩
        obtain ⟨b, rfl⟩ : ∃ b, len = b + 1 := ⟨len - 1, by omega⟩
        simp only [Nat.add_sub_cancel, Nat.add_mul, Nat.mul_add]; omega
      omega
    omega

/-- a size of blocks -/
def sizeN (b : Int) : Nat := if b ≤ 16 then 4 else if b ≤ 64 then 8 else if b ≤ 256 then 16 else if b ≤ 1024 then 32 else 64
theorem sizeN_is (b : Int) : sizeN b = 4 ∨ sizeN b = 8 ∨ sizeN b = 16 ∨ sizeN b = 32 ∨ sizeN b = 64 := by
  unfold sizeN; (repeat' split) <;> simp
theorem sizeN_mono (a b : Int) (h : a ≤ b) : sizeN a ≤ sizeN b := by
  unfold sizeN; (repeat' split) <;> omega
/-- how long a string's value is -/
def strLen : Value → Nat
  | .string s => s.size
  | _ => 0
theorem strLen_is (s : ByteArray) : strLen (.string s) = s.size := rfl

/-- the first block of a list that is this one -/
def findB : List Blk → Blk → Nat → Int
  | [], _, _ => -1
  | b :: l, x, i => if b = x then i else findB l x (i + 1)
def findI (l : List Blk) (x : Blk) : Int := findB l x 0
theorem findB_cons (b : Blk) (l : List Blk) (x : Blk) (i : Nat) : findB (b :: l) x i = if b = x then (i : Int) else findB l x (i + 1) := rfl
theorem findB_drop_hit (l : List Blk) (x : Blk) (i : Nat) (h : i < l.length) (e : l[i] = x) : findB (l.drop i) x i = i := by
  rw [List.drop_eq_getElem_cons h]; simp [findB, e]
theorem findB_drop_miss (l : List Blk) (x : Blk) (i : Nat) (h : i < l.length) (e : ¬ l[i] = x) : findB (l.drop i) x i = findB (l.drop (i + 1)) x (i + 1) := by
  rw [List.drop_eq_getElem_cons h]; simp [findB, e]
theorem findB_end (l : List Blk) (x : Blk) (i : Nat) (h : l.length ≤ i) : findB (l.drop i) x i = -1 := by
  rw [List.drop_eq_nil_of_le h]; rfl
attribute [irreducible] bcells blk blksN cntOf sizeN findB
end Go.Proofs.YtdpoalbbcmkceaaGreatDoor
/- Plain laws: blocks that are well; a signature's text. No program is in sight here. -/
namespace Go.Proofs.YtdpoalbbcmkceaaGreatDoor
open Go.RowKit

theorem isEmpty_drop (l : List Blk) (k : Nat) (h : k < l.length) : (l.drop (k + 1)).isEmpty = decide (l.length = k + 1) := by
  rw [Bool.eq_iff_iff]; simp; omega
def badB (b : Blk) (size : Int) (last : Bool) : Prop := b.N < 1 ∨ size < b.N ∨ b.N < size ∧ last = false ∨ b.W < 0 ∨ 4294967296 ≤ b.W
instance (b : Blk) (size : Int) (last : Bool) : Decidable (badB b size last) := by unfold badB; infer_instance
def chkA (size : Int) : List Blk → Nat → Int → Nat × Int
  | [], _, _ => (0, -1)
  | b :: l, i, all => if badB b size l.isEmpty then (2, i) else if 4000 < all + b.N then (8, i) else chkA size l (i + 1) (all + b.N)
def chk (l : List Blk) (size : Int) : Nat × Int := if 1 ≤ size ∧ size ≤ 64 then chkA size l 0 0 else (2, -1)
theorem chkA_bad {size : Int} {l : List Blk} {k : Nat} {all : Int} (h : k < l.length) (hb : badB l[k] size (decide (l.length = k + 1))) : chkA size (l.drop k) k all = (2, (k : Int)) := by
  rw [List.drop_eq_getElem_cons h]
  have : (l.drop (k + 1)).isEmpty = decide (l.length = k + 1) := isEmpty_drop l k h
  rw [chkA, this, if_pos hb]
theorem chkA_full {size : Int} {l : List Blk} {k : Nat} {all : Int} (h : k < l.length) (hb : ¬ badB l[k] size (decide (l.length = k + 1))) (hf : 4000 < all + l[k].N) : chkA size (l.drop k) k all = (8, (k : Int)) := by
  rw [List.drop_eq_getElem_cons h]
  have : (l.drop (k + 1)).isEmpty = decide (l.length = k + 1) := isEmpty_drop l k h
  rw [chkA, this, if_neg hb, if_pos hf]
theorem chkA_next {size : Int} {l : List Blk} {k : Nat} {all : Int} (h : k < l.length) (hb : ¬ badB l[k] size (decide (l.length = k + 1))) (hf : ¬ 4000 < all + l[k].N) : chkA size (l.drop k) k all = chkA size (l.drop (k + 1)) (k + 1) (all + l[k].N) := by
  rw [List.drop_eq_getElem_cons h]
  have : (l.drop (k + 1)).isEmpty = decide (l.length = k + 1) := isEmpty_drop l k h
  rw [chkA, this, if_neg hb, if_neg hf]
theorem chkA_end {size : Int} {l : List Blk} {k : Nat} {all : Int} (h : l.length ≤ k) : chkA size (l.drop k) k all = (0, -1) := by
  rw [List.drop_eq_nil_of_le h, chkA]
theorem chk_no {l : List Blk} {size : Int} (h : ¬ (1 ≤ size ∧ size ≤ 64)) : chk l size = (2, -1) := by unfold chk; rw [if_neg h]
theorem chk_yes {l : List Blk} {size : Int} (h : 1 ≤ size ∧ size ≤ 64) : chk l size = chkA size l 0 0 := by unfold chk; rw [if_pos h]
theorem chk_code (l : List Blk) (size : Int) : (chk l size).1 = 0 ∨ (chk l size).1 = 2 ∨ (chk l size).1 = 8 := by
  unfold chk
  split
  · have H : ∀ (l : List Blk) (i : Nat) (all : Int), (chkA size l i all).1 = 0 ∨ (chkA size l i all).1 = 2 ∨ (chkA size l i all).1 = 8 := by
     intro l
     induction l with
     | nil => intro i all; simp [chkA]
     | cons b l ih =>
       intro i all
       rw [chkA]
       split
       · simp
       · split
         · simp
         · exact ih _ _
    exact H l 0 0
  · simp
/-- what a list that is well holds -/
theorem chkA_ok (size : Int) : ∀ (l : List Blk) (i : Nat) (all : Int), (chkA size l i all).1 = 0 → all + l.length ≤ 4000 ∨ l = [] := by
  intro l
  induction l with
  | nil => intro i all _; exact .inr rfl
  | cons b l ih =>
    intro i all h
    rw [chkA] at h
    split at h
    · simp at h
    · rename_i hb
      split at h
      · simp at h
      · rename_i hf
        left
        have hN : 1 ≤ b.N := by unfold badB at hb; omega
        rcases ih _ _ h with h1 | h1
        · simp only [List.length_cons]; omega
        · subst h1; simp; omega
theorem chkA_each (size : Int) : ∀ (l : List Blk) (i : Nat) (all : Int), (chkA size l i all).1 = 0 → ∀ b ∈ l, 1 ≤ b.N ∧ b.N ≤ size ∧ 0 ≤ b.W ∧ b.W < 4294967296 := by
  intro l
  induction l with
  | nil => intro i all _ b hb; simp at hb
  | cons a l ih =>
    intro i all h b hb
    rw [chkA] at h
    split at h
    · simp at h
    · rename_i hn
      split at h
      · simp at h
      · rcases List.mem_cons.1 hb with rfl | hb
        · unfold badB at hn; omega
        · exact ih _ _ h b hb
theorem chk_ok {l : List Blk} {size : Int} (h : (chk l size).1 = 0) : 1 ≤ size ∧ size ≤ 64 ∧ l.length ≤ 4000 ∧ ∀ b ∈ l, 1 ≤ b.N ∧ b.N ≤ size ∧ 0 ≤ b.W ∧ b.W < 4294967296 := by
  by_cases hs : 1 ≤ size ∧ size ≤ 64
  · rw [chk_yes hs] at h
    refine ⟨hs.1, hs.2, ?_, chkA_each size l 0 0 h⟩
    rcases chkA_ok size l 0 0 h with h1 | h1
    · omega
    · subst h1; simp
  · rw [chk_no hs] at h; simp at h
attribute [irreducible] chkA chk
end Go.Proofs.YtdpoalbbcmkceaaGreatDoor
/- Plain laws: ops of a delta; what they put together. No program is in sight here. -/
namespace Go.Proofs.YtdpoalbbcmkceaaGreatDoor
open Go.RowKit

/-- an op: its kind, place, number, data -/
structure POp where
  kind : List UInt8
  a : Int
  n : Int
  data : List UInt8
deriving DecidableEq
def POp.cells : Nat := 4
def POp.vals (o : POp) : List Value := [.string (bs o.kind), .int .i64 o.a, .int .i64 o.n, .string (bs o.data)]
def POp.ok (o : POp) : Prop := o.kind.length ≤ maxLen ∧ o.data.length ≤ maxLen ∧ (Lit.int .i64 o.a).wf = true ∧ (Lit.int .i64 o.n).wf = true
theorem POp.vals_len (o : POp) : o.vals.length = 4 := rfl
def ocells (l : List POp) : List Value := l.flatMap POp.vals
theorem ocells_is (l : List POp) : l.flatMap POp.vals = ocells l := rfl
theorem ocells_len (l : List POp) : (ocells l).length = l.length * 4 := flat_len _ 4 POp.vals_len l
theorem ocells_get (l : List POp) (i : Nat) (hi : i < l.length) : (ocells l)[i * 4]? = some (.string (bs l[i].kind)) ∧ (ocells l)[i * 4 + 1]? = some (.int .i64 l[i].a) ∧ (ocells l)[i * 4 + 2]? = some (.int .i64 l[i].n) ∧ (ocells l)[i * 4 + 3]? = some (.string (bs l[i].data)) :=
  ⟨flat_get _ 4 POp.vals_len l i 0 hi (by omega), flat_get _ 4 POp.vals_len l i 1 hi (by omega), flat_get _ 4 POp.vals_len l i 2 hi (by omega), flat_get _ 4 POp.vals_len l i 3 hi (by omega)⟩
theorem ocells_append (a b : List POp) : ocells (a ++ b) = ocells a ++ ocells b := by simp [ocells]
theorem ocells_one (b : POp) : ocells [b] = b.vals := by simp [ocells]
theorem ocells_nil : ocells [] = [] := rfl
theorem ocells_cons (b : POp) (l : List POp) : ocells (b :: l) = b.vals ++ ocells l := by simp [ocells]
theorem ocells_cell (l : List POp) : ∀ u ∈ ocells l, u.oneCell' = true := by
  intro u hu
  obtain ⟨b, _, hb⟩ := List.mem_flatMap.1 hu
  simp [POp.vals] at hb
  rcases hb with rfl | rfl | rfl | rfl <;> rfl

def kCopy : List UInt8 := [99, 111, 112, 121]
def kData : List UInt8 := [100, 97, 116, 97]
theorem kCopy_is : kCopy = [99, 111, 112, 121] := rfl
theorem kData_is : kData = [100, 97, 116, 97] := rfl
/-- an op's error -/
def opC (o : POp) : Nat :=
  if o.kind = kCopy then (if o.data ≠ [] then 3 else if (0 ≤ o.a ∧ o.a ≤ 4000) ∧ (1 ≤ o.n ∧ o.n ≤ 4000) then 0 else 2)
  else if o.kind = kData then (if o.a ≠ 0 ∨ o.n ≠ 0 then 3 else if 1 ≤ o.data.length ∧ o.data.length ≤ 4000 then 0 else 2)
  else 4
theorem opC_shape {o : POp} (h1 : o.kind = kCopy) (h2 : o.data ≠ []) : opC o = 3 := by unfold opC; rw [if_pos h1, if_pos h2]
theorem opC_bound {o : POp} (h1 : o.kind = kCopy) (h2 : o.data = []) (h3 : ¬ ((0 ≤ o.a ∧ o.a ≤ 4000) ∧ (1 ≤ o.n ∧ o.n ≤ 4000))) : opC o = 2 := by unfold opC; rw [if_pos h1, if_neg (by simp [h2]), if_neg h3]
theorem opC_fine {o : POp} (h1 : o.kind = kCopy) (h2 : o.data = []) (h3 : (0 ≤ o.a ∧ o.a ≤ 4000) ∧ (1 ≤ o.n ∧ o.n ≤ 4000)) : opC o = 0 := by unfold opC; rw [if_pos h1, if_neg (by simp [h2]), if_pos h3]
theorem opD_shape {o : POp} (h0 : o.kind ≠ kCopy) (h1 : o.kind = kData) (h2 : o.a ≠ 0 ∨ o.n ≠ 0) : opC o = 3 := by unfold opC; rw [if_neg h0, if_pos h1, if_pos h2]
theorem opD_bound {o : POp} (h0 : o.kind ≠ kCopy) (h1 : o.kind = kData) (h2 : o.a = 0 ∧ o.n = 0) (h3 : ¬ (1 ≤ o.data.length ∧ o.data.length ≤ 4000)) : opC o = 2 := by unfold opC; rw [if_neg h0, if_pos h1, if_neg (by omega), if_neg h3]
theorem opD_fine {o : POp} (h0 : o.kind ≠ kCopy) (h1 : o.kind = kData) (h2 : o.a = 0 ∧ o.n = 0) (h3 : 1 ≤ o.data.length ∧ o.data.length ≤ 4000) : opC o = 0 := by unfold opC; rw [if_neg h0, if_pos h1, if_neg (by omega), if_pos h3]
theorem opK {o : POp} (h0 : o.kind ≠ kCopy) (h1 : o.kind ≠ kData) : opC o = 4 := by unfold opC; rw [if_neg h0, if_neg h1]
def chkO : List POp → Nat → Nat × Int
  | [], _ => (0, -1)
  | o :: l, i => if opC o = 0 then chkO l (i + 1) else (opC o, i)
def chkOps (l : List POp) : Nat × Int := chkO l 0
theorem chkO_bad {l : List POp} {k : Nat} (h : k < l.length) (hb : opC l[k] ≠ 0) : chkO (l.drop k) k = (opC l[k], (k : Int)) := by
  rw [List.drop_eq_getElem_cons h, chkO, if_neg hb]
theorem chkO_next {l : List POp} {k : Nat} (h : k < l.length) (hb : opC l[k] = 0) : chkO (l.drop k) k = chkO (l.drop (k + 1)) (k + 1) := by
  rw [List.drop_eq_getElem_cons h, chkO, if_pos hb]
theorem chkO_end {l : List POp} {k : Nat} (h : l.length ≤ k) : chkO (l.drop k) k = (0, -1) := by rw [List.drop_eq_nil_of_le h, chkO]
theorem opC_cases (o : POp) : opC o = 0 ∨ opC o = 2 ∨ opC o = 3 ∨ opC o = 4 := by
  unfold opC; (repeat' split) <;> simp
theorem chkO_ok : ∀ (l : List POp) (i : Nat), (chkO l i).1 = 0 ↔ ∀ o ∈ l, opC o = 0
  | [], i => by simp [chkO]
  | o :: l, i => by
    rw [chkO]
    split
    · rename_i h; rw [chkO_ok l (i + 1)]; simp [h]
    · rename_i h; simp [h]
theorem chkOps_ok (l : List POp) : (chkOps l).1 = 0 ↔ ∀ o ∈ l, opC o = 0 := chkO_ok l 0
theorem opC_copy {o : POp} (h : opC o = 0) (hk : o.kind = kCopy) : o.data = [] ∧ 0 ≤ o.a ∧ o.a ≤ 4000 ∧ 1 ≤ o.n ∧ o.n ≤ 4000 := by
  unfold opC at h
  rw [if_pos hk] at h
  split at h
  · simp at h
  · rename_i hd
    split at h
    · rename_i hh; exact ⟨by simpa using hd, hh.1.1, hh.1.2, hh.2.1, hh.2.2⟩
    · simp at h
theorem kne : kData ≠ kCopy := by decide
theorem opC_data {o : POp} (h : opC o = 0) (hk : o.kind = kData) : o.a = 0 ∧ o.n = 0 ∧ 1 ≤ o.data.length ∧ o.data.length ≤ 4000 := by
  unfold opC at h
  rw [if_neg (by rw [hk]; exact kne), if_pos hk] at h
  split at h
  · simp at h
  · rename_i hd
    split at h
    · rename_i hh; exact ⟨by omega, by omega, hh.1, hh.2⟩
    · simp at h
theorem opC_kind {o : POp} (h : opC o = 0) : o.kind = kCopy ∨ o.kind = kData := by
  unfold opC at h
  split at h
  · exact .inl (by assumption)
  · split at h
    · exact .inr (by assumption)
    · simp at h

def costN (l : List POp) : Nat := (l.map fun o => o.data.length).sum
theorem costN_nil : costN [] = 0 := rfl
theorem costN_append (a b : List POp) : costN (a ++ b) = costN a + costN b := by simp [costN]
theorem costN_one (o : POp) : costN [o] = o.data.length := by simp [costN]
theorem costN_cons (o : POp) (l : List POp) : costN (o :: l) = o.data.length + costN l := by simp [costN]

/-- ops too many, or too long, for a statement -/
def longB (l : List POp) : Bool := decide (40 < l.length) || l.any fun o => (decide (100 < o.data.length) && decide (o.data.length ≠ 4001)) || decide (20 < o.kind.length)
theorem longB_no {l : List POp} (h : longB l = false) : l.length ≤ 40 ∧ ∀ o ∈ l, (o.data.length ≤ 100 ∨ o.data.length = 4001) ∧ o.kind.length ≤ 20 := by
  simp only [longB, Bool.or_eq_false_iff, decide_eq_false_iff_not, List.any_eq_false, Bool.not_eq_true, Bool.and_eq_false_iff] at h
  refine ⟨by omega, fun o ho => ?_⟩
  have := h.2 o ho
  simp at this
  omega

/-- a piece of an op: an error's number, the bytes -/
def pieceC (old : List UInt8) (size : Nat) (o : POp) : Nat × List UInt8 :=
  if o.kind = kData then (0, o.data)
  else if (cntOf size old.length : Int) < o.a + o.n then (6, [])
  else (0, (old.drop (o.a.toNat * size)).take (o.n.toNat * size))
/-- ops put together: an error's number and place, the bytes -/
def appA (old : List UInt8) (size : Nat) : List POp → Nat → List UInt8 → (Nat × Int) × List UInt8
  | [], _, out => ((0, -1), out)
  | o :: l, i, out => if (pieceC old size o).1 ≠ 0 then (((pieceC old size o).1, i), [])
      else if 4000 < out.length + (pieceC old size o).2.length then ((8, i), []) else appA old size l (i + 1) (out ++ (pieceC old size o).2)
def appl (old : List UInt8) (size : Int) (l : List POp) : (Nat × Int) × List UInt8 :=
  if (1 ≤ size ∧ size ≤ 64) ∧ old.length ≤ 4000 then (if (chkOps l).1 = 0 then appA old size.toNat l 0 [] else (chkOps l, [])) else ((2, -1), [])
attribute [irreducible] ocells kCopy kData opC chkO chkOps costN longB pieceC appA appl
end Go.Proofs.YtdpoalbbcmkceaaGreatDoor
