/- Plain laws of marks: a mark is read as it was written; how far a file is right. No program is in sight. -/
import Derived.Test.YtomaojpldinmgaaGreatDoorSplitPlain
import Derived.Test.YtomaojpldinmgaaGreatDoorFilPlain
import Derived.Test.YtomaojpldinmgaaGreatDoorCrc
namespace Go.Proofs.YtomaojpldinmgaaGreatDoor
open Go.RowKit
set_option linter.unusedVariables false

structure PMk where
  n : List UInt8
  N : Int
  S : Nat
deriving DecidableEq
def mkC (m : PMk) : Nat := if nameB m.n = false then 5 else if m.N < 0 ∨ 4000 < m.N then 2 else 0
def mkT (m : PMk) : List UInt8 := m.n ++ 32 :: (Lib.decDigits m.N.toNat ++ 32 :: Lib.decDigits m.S)
def mkX (m : PMk) : List UInt8 := if mkC m = 0 then mkT m else []
def zmk : PMk := ⟨[], 0, 0⟩
/-- what is read of three words -/
def rdW (a b c : List UInt8) : PMk × Nat :=
  match nmL 10 b, nmL 10 c with
  | some n, some s => if nameB a = false then (zmk, 5) else if 4000 < n ∨ 4294967295 < s then (zmk, 2) else (⟨a, n, s⟩, 0)
  | _, _ => (zmk, 1)
def rdM (s : List UInt8) : PMk × Nat :=
  match splC 32 s with
  | [a, b, c] => rdW a b c
  | _ => (zmk, 1)
theorem dec_no32 (n : Nat) : (32 : UInt8) ∉ Lib.decDigits n := fun h => by
  have := dec_digit n _ h
  have : (32 : UInt8).toNat = 32 := rfl
  omega
theorem name_no32 {s : List UInt8} (h : nameB s = true) : (32 : UInt8) ∉ s := fun h2 => by
  have := List.all_eq_true.1 ((nameB_iff s).1 h).2.2 _ h2
  revert this; decide
theorem mk_spl (m : PMk) (h : nameB m.n = true) : splC 32 (mkT m) = [m.n, Lib.decDigits m.N.toNat, Lib.decDigits m.S] := by
  unfold mkT
  rw [splC_app (name_no32 h), splC_app (dec_no32 _), splC_none (dec_no32 _)]
/-- a mark is read as it was written -/
theorem mk_back (m : PMk) (h : mkC m = 0) (hs : m.S < 4294967296) : rdM (mkT m) = (m, 0) := by
  unfold mkC at h
  split at h
  · cases h
  · rename_i hn
    split at h
    · cases h
    · rename_i hN
      have hn' : nameB m.n = true := by simpa using hn
      unfold rdM
      rw [mk_spl m hn']
      simp only
      unfold rdW
      rw [nm_dec _ _ (dec_len_le (k := 9) (by omega)), nm_dec _ _ (dec_len_le (k := 9) (by omega))]
      simp only
      rw [if_neg hn, if_neg (by omega)]
      have : ((m.N.toNat : Nat) : Int) = m.N := by omega
      simp only [this]
/-- does a mark hold? -/
def okMk (name data : List UInt8) (m : PMk) : Bool := decide (m.n = name) && decide (0 < m.N) && decide (m.N ≤ data.length) && decide (csum (data.take m.N.toNat) = m.S)
theorem okMk_iff (name data : List UInt8) (m : PMk) : okMk name data m = true ↔ m.n = name ∧ 0 < m.N ∧ m.N ≤ data.length ∧ csum (data.take m.N.toNat) = m.S := by
  unfold okMk; simp [and_assoc]
/-- how far a file is right, behind a number -/
def farF (name data : List UInt8) : List PMk → Int → Int
  | [], far => far
  | m :: l, far => farF name data l (if m.n = name ∧ far < m.N ∧ m.N ≤ data.length ∧ csum (data.take m.N.toNat) = m.S then m.N else far)
def farL (name data : List UInt8) (l : List PMk) : Int := farF name data l 0
theorem farF_spec (name data : List UInt8) (l : List PMk) : ∀ far : Int, 0 ≤ far → far ≤ data.length → far ≤ farF name data l far ∧ farF name data l far ≤ data.length ∧ (∀ m ∈ l, okMk name data m = true → m.N ≤ farF name data l far) ∧ (farF name data l far = far ∨ ∃ m ∈ l, okMk name data m = true ∧ farF name data l far = m.N) := by
  induction l with
  | nil => intro far h0 h1; exact ⟨Int.le_refl _, h1, by simp, .inl rfl⟩
  | cons m l ih =>
    intro far h0 h1
    unfold farF
    by_cases hc : m.n = name ∧ far < m.N ∧ m.N ≤ data.length ∧ csum (data.take m.N.toNat) = m.S
    · rw [if_pos hc]
      obtain ⟨a1, a2, a3, a4⟩ := ih m.N (by omega) hc.2.2.1
      refine ⟨by omega, a2, fun x hx ho => ?_, .inr ?_⟩
      · rcases List.mem_cons.1 hx with rfl | hx
        · exact a1
        · exact a3 x hx ho
      · rcases a4 with e | ⟨x, hx, ho, e⟩
        · exact ⟨m, by simp, (okMk_iff _ _ _).2 ⟨hc.1, by omega, hc.2.2⟩, e⟩
        · exact ⟨x, by simp [hx], ho, e⟩
    · rw [if_neg hc]
      obtain ⟨a1, a2, a3, a4⟩ := ih far h0 h1
      refine ⟨a1, a2, fun x hx ho => ?_, ?_⟩
      · rcases List.mem_cons.1 hx with rfl | hx
        · obtain ⟨b1, b2, b3, b4⟩ := (okMk_iff _ _ _).1 ho
          by_cases hf : far < x.N
          · exact absurd ⟨b1, hf, b3, b4⟩ hc
          · omega
        · exact a3 x hx ho
      · rcases a4 with e | ⟨x, hx, ho, e⟩
        · exact .inl e
        · exact .inr ⟨x, by simp [hx], ho, e⟩
/-- the greatest number of a mark that holds, if there is one -/
theorem farL_is {name data : List UInt8} {l : List PMk} {n : Int} (h0 : 0 ≤ n) (hup : ∀ m ∈ l, okMk name data m = true → m.N ≤ n) (hat : n = 0 ∨ ∃ m ∈ l, okMk name data m = true ∧ n = m.N) : farL name data l = n := by
  obtain ⟨a1, a2, a3, a4⟩ := farF_spec name data l 0 (by omega) (by omega)
  unfold farL
  rcases a4 with e | ⟨x, hx, ho, e⟩
  · rcases hat with rfl | ⟨m, hm, hom, rfl⟩
    · exact e
    · have := a3 m hm hom; omega
  · have h1 := hup x hx ho
    rcases hat with rfl | ⟨m, hm, hom, rfl⟩
    · omega
    · have := a3 m hm hom; omega
theorem farL_ge {name data : List UInt8} {l : List PMk} {m : PMk} (hm : m ∈ l) (ho : okMk name data m = true) : m.N ≤ farL name data l := (farF_spec name data l 0 (by omega) (by omega)).2.2.1 m hm ho
theorem farL_bd (name data : List UInt8) (l : List PMk) : 0 ≤ farL name data l ∧ farL name data l ≤ data.length := ⟨(farF_spec name data l 0 (by omega) (by omega)).1, (farF_spec name data l 0 (by omega) (by omega)).2.1⟩
/-- a file's own marks -/
def mksL (name data : List UInt8) (step : Nat) (k : Nat) : List PMk := (List.range k).map fun i => ⟨name, ((step * (i + 1) : Nat) : Int), csum (data.take (step * (i + 1)))⟩
theorem mksL_snoc (name data : List UInt8) (step k : Nat) : mksL name data step (k + 1) = mksL name data step k ++ [⟨name, ((step * (k + 1) : Nat) : Int), csum (data.take (step * (k + 1)))⟩] := by
  unfold mksL; rw [List.range_succ, List.map_append]; rfl
theorem mksL_len (name data : List UInt8) (step k : Nat) : (mksL name data step k).length = k := by unfold mksL; simp
theorem mksL_get (name data : List UInt8) (step k i : Nat) (h : i < k) : (mksL name data step k)[i]? = some ⟨name, ((step * (i + 1) : Nat) : Int), csum (data.take (step * (i + 1)))⟩ := by
  unfold mksL; rw [List.getElem?_map, List.getElem?_range h]; rfl
theorem mksL_mem {name data : List UInt8} {step k : Nat} {m : PMk} (h : m ∈ mksL name data step k) : ∃ i, i < k ∧ m = ⟨name, ((step * (i + 1) : Nat) : Int), csum (data.take (step * (i + 1)))⟩ := by
  unfold mksL at h
  obtain ⟨i, hi, e⟩ := List.mem_map.1 h
  exact ⟨i, List.mem_range.1 hi, e.symm⟩
/-- of a file's own marks the last one holds -/
theorem far_own (name data : List UInt8) (step : Nat) (h1 : 1 ≤ step) : farL name data (mksL name data step (data.length / step)) = ((data.length - data.length % step : Nat) : Int) := by
  have hdm := Nat.div_add_mod data.length step
  have hmul : step * (data.length / step) = data.length - data.length % step := by omega
  refine farL_is (by omega) (fun m hm ho => ?_) ?_
  · obtain ⟨i, hi, rfl⟩ := mksL_mem hm
    have : step * (i + 1) ≤ step * (data.length / step) := Nat.mul_le_mul_left _ (by omega)
    simp only
    omega
  · rcases Nat.eq_zero_or_pos (data.length / step) with h0 | h0
    · left
      rw [← hmul, h0]; rfl
    · right
      obtain ⟨k, hk⟩ : ∃ k, data.length / step = k + 1 := ⟨data.length / step - 1, by omega⟩
      refine ⟨⟨name, ((step * (k + 1) : Nat) : Int), csum (data.take (step * (k + 1)))⟩, List.mem_of_getElem? (mksL_get _ _ _ _ k (by omega)), ?_, ?_⟩
      · rw [hk] at hmul
        have hp : 0 < step * (k + 1) := Nat.mul_pos h1 (by omega)
        exact (okMk_iff _ _ _).2 ⟨rfl, by simp only; omega, by simp only; omega, rfl⟩
      · simp only
        rw [← hmul, hk]
theorem far_other {name other data : List UInt8} (h : name ≠ other) (step k : Nat) (x : List UInt8) : farL other x (mksL name data step k) = 0 := by
  refine farL_is (Int.le_refl _) (fun m hm ho => ?_) (.inl rfl)
  obtain ⟨i, hi, rfl⟩ := mksL_mem hm
  exact absurd ((okMk_iff _ _ _).1 ho).1 h
theorem far_nil (name data : List UInt8) : farL name data [] = 0 := rfl
/-- a file that is alike up to there is right as far -/
theorem far_mixed (name data other : List UInt8) (step cut : Nat) (h1 : 1 ≤ step) (hc : cut ≤ data.length) : ((cut - cut % step : Nat) : Int) ≤ farL name (data.take cut ++ other) (mksL name data step (data.length / step)) := by
  have hdm := Nat.div_add_mod cut step
  have hmul : step * (cut / step) = cut - cut % step := by omega
  rcases Nat.eq_zero_or_pos (cut / step) with h0 | h0
  · rw [← hmul, h0]
    exact (farL_bd _ _ _).1
  · obtain ⟨k, hk⟩ : ∃ k, cut / step = k + 1 := ⟨cut / step - 1, by omega⟩
    have hle : cut / step ≤ data.length / step := Nat.div_le_div_right hc
    have hp : 0 < step * (k + 1) := Nat.mul_pos h1 (by omega)
    rw [hk] at hmul
    have hm : (⟨name, ((step * (k + 1) : Nat) : Int), csum (data.take (step * (k + 1)))⟩ : PMk) ∈ mksL name data step (data.length / step) := List.mem_of_getElem? (mksL_get _ _ _ _ k (by omega))
    rw [← hmul]
    refine farL_ge hm ((okMk_iff _ _ _).2 ⟨rfl, by simp only; omega, ?_, ?_⟩)
    · simp only [List.length_append, List.length_take]; omega
    · simp only [Int.toNat_natCast]
      rw [List.take_append_of_le_length (by rw [List.length_take]; omega), List.take_take, Nat.min_eq_left (by omega)]
end Go.Proofs.YtomaojpldinmgaaGreatDoor
