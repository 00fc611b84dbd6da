/- Plain laws of the document's NumberOf, digit by digit. No program is in sight. -/
import Derived.Test.YtkjcclbnbbbfaaaGreatDoorTapPlain
import Derived.Test.YtkjcclbnbbbfaaaGreatDoorRefByte
namespace Go.Proofs.YtkjcclbnbbbfaaaGreatDoor
open Go.RowKit
set_option linter.unusedVariables false

/-- what the document's NumberOf answers -/
def nmZ (most : Nat) (d : List UInt8) : Int := match nmL most d with
  | some n => (n : Int)
  | none => -1
theorem nmZ_some {most n : Nat} {d : List UInt8} (h : nmL most d = some n) : nmZ most d = n := by unfold nmZ; rw [h]
theorem nmZ_none {most : Nat} {d : List UInt8} (h : nmL most d = none) : nmZ most d = -1 := by unfold nmZ; rw [h]
theorem nm_short {most : Nat} {d : List UInt8} (h : d.length < 1) : nmL most d = none := by
  have : d = [] := List.eq_nil_of_length_eq_zero (by omega)
  subst this
  unfold nmL
  split <;> rfl
theorem nm_long {most : Nat} {d : List UInt8} (h : most < d.length) : nmL most d = none := by
  unfold nmL
  rw [if_neg (by omega)]
theorem nm_zero {most : Nat} {d : List UInt8} (h : 1 < d.length) (h0 : d.head? = some 48) : nmL most d = none := by
  unfold nmL
  rw [if_neg (by rintro ⟨_, h1 | h1⟩; omega; exact h1 h0)]
theorem nm_rest {most : Nat} {d : List UInt8} (h1 : 1 ≤ d.length) (h2 : d.length ≤ most) (h3 : ¬ (1 < d.length ∧ d.head? = some 48)) : nmL most d = Lib.decFrom 0 d := by
  unfold nmL
  rw [if_pos ⟨h2, by by_cases h : d.length = 1; exact .inl h; exact .inr (fun e => h3 ⟨by omega, e⟩)⟩]
  unfold Lib.decNat
  cases d with
  | nil => simp at h1
  | cons c r => rfl
/-- a digit more -/
theorem nm_step {d : List UInt8} {k n : Nat} {c : UInt8} (h : Lib.decFrom 0 (d.take k) = some n) (hc : d[k]? = some c) (h1 : 48 ≤ c.toNat) (h2 : c.toNat ≤ 57) : Lib.decFrom 0 (d.take (k + 1)) = some (10 * n + (c.toNat - 48)) := by
  have hk := (List.getElem?_eq_some_iff.1 hc).1
  have e : d.take (k + 1) = d.take k ++ [c] := by
    rw [List.take_succ_eq_append_getElem hk]
    congr 2
    exact (List.getElem?_eq_some_iff.1 hc).2
  rw [e, decFrom_append, h]
  simp only [Option.bind_some, Lib.decFrom, Lib.digitVal]
  rw [if_pos (by omega)]
  simp only [Option.some.injEq]
  omega
theorem nm_bad {d : List UInt8} {k n : Nat} {c : UInt8} (hc : d[k]? = some c) (h1 : ¬ (48 ≤ c.toNat ∧ c.toNat ≤ 57)) : Lib.decFrom 0 d = none := by
  have hk := (List.getElem?_eq_some_iff.1 hc).1
  have e : d = d.take k ++ (c :: d.drop (k + 1)) := by
    have := (List.getElem?_eq_some_iff.1 hc).2
    rw [← this, ← List.drop_eq_getElem_cons hk, List.take_append_drop]
  rw [e, decFrom_append]
  cases Lib.decFrom 0 (d.take k) with
  | none => rfl
  | some a =>
    simp only [Option.bind_some, Lib.decFrom, Lib.digitVal]
    rw [if_neg (by omega)]
theorem nm_bound {l : List UInt8} {n : Nat} (h : Lib.decFrom 0 l = some n) : n < 10 ^ l.length := by
  have : ∀ (k : Nat) (l : List UInt8), l.length = k → ∀ n, Lib.decFrom 0 l = some n → n < 10 ^ k := by
    intro k
    induction k with
    | zero =>
      intro l hl n h
      have : l = [] := List.eq_nil_of_length_eq_zero hl
      subst this
      have h0 : some 0 = some n := h
      injection h0 with h0
      subst h0; decide
    | succ k ih =>
      intro l hl n h
      have hne : l ≠ [] := fun e => by rw [e] at hl; simp at hl
      obtain ⟨m, c, rfl⟩ : ∃ m c, l = m ++ [c] := ⟨l.dropLast, l.getLast hne, (List.dropLast_concat_getLast hne).symm⟩
      rw [List.length_append] at hl
      have hl' : m.length = k := by simpa using hl
      rw [decFrom_append] at h
      cases hm : Lib.decFrom 0 m with
      | none => rw [hm] at h; simp at h
      | some a =>
        rw [hm] at h
        have ha := ih m hl' a hm
        simp only [Option.bind_some, Lib.decFrom] at h
        cases hc : Lib.digitVal c with
        | none => rw [hc] at h; cases h
        | some d =>
          rw [hc] at h
          simp only [Option.some.injEq] at h
          obtain ⟨_, hd⟩ := dig_inv hc
          rw [Nat.pow_succ]
          omega
  exact this l.length l rfl n h
/-- ten times less than a bound, as a number -/
theorem nm_bound17 {l : List UInt8} {n : Nat} (h : Lib.decFrom 0 l = some n) (hl : l.length ≤ 17) : n < 100000000000000000 :=
  Nat.lt_of_lt_of_le (nm_bound h) (Nat.le_trans (Nat.pow_le_pow_right (by decide) hl) (by decide))
theorem nmZ_bd {most : Nat} {d : List UInt8} (hm : most ≤ 18) : -1 ≤ nmZ most d ∧ nmZ most d ≤ 1000000000000000000 := by
  cases h : nmL most d with
  | none => rw [nmZ_none h]; omega
  | some n =>
    rw [nmZ_some h]
    obtain ⟨h1, h2⟩ := nm_some h
    have := dec_lt (n := n) (k := 18) (by rw [h2]; omega)
    omega
/-! ### a place of a byte, by a search from the left -/
theorem cut_none_of {c : UInt8} {b : List UInt8} {d k : Nat} (h : ∀ j, d ≤ j → j < k → b[j]? ≠ some c) (hk : b.length ≤ k) : cutC c (b.drop d) = none := by
  rw [cutC_none]
  intro hm
  obtain ⟨i, hi⟩ := List.mem_iff_getElem?.1 hm
  rw [List.getElem?_drop] at hi
  have := (List.getElem?_eq_some_iff.1 hi).1
  exact h (d + i) (by omega) (by omega) hi
theorem cut_some_of {c : UInt8} {b : List UInt8} {d k : Nat} (h : ∀ j, d ≤ j → j < k → b[j]? ≠ some c) (hd : d ≤ k) (hk : b[k]? = some c) : cutC c (b.drop d) = some ((b.drop d).take (k - d), b.drop (k + 1)) := by
  have hkl := (List.getElem?_eq_some_iff.1 hk).1
  have e : b.drop d = (b.drop d).take (k - d) ++ c :: b.drop (k + 1) := by
    have h1 : (b.drop d).drop (k - d) = b.drop k := by rw [List.drop_drop]; congr 1; omega
    have h2 : b.drop k = c :: b.drop (k + 1) := by
      rw [List.drop_eq_getElem_cons hkl]
      congr 1
      exact (List.getElem?_eq_some_iff.1 hk).2
    rw [← h2, ← h1, List.take_append_drop]
  have hn : c ∉ (b.drop d).take (k - d) := by
    intro hm
    obtain ⟨i, hi⟩ := List.mem_iff_getElem?.1 hm
    rw [List.getElem?_take] at hi
    split at hi
    · rw [List.getElem?_drop] at hi
      exact h (d + i) (by omega) (by omega) hi
    · cases hi
  conv => lhs; rw [e]
  exact cutC_of hn _
end Go.Proofs.YtkjcclbnbbbfaaaGreatDoor
/- The document's NumberOf. -/
namespace Go.Proofs.YtkjcclbnbbbfaaaGreatDoor
open Go.RowKit
set_option linter.unusedVariables false

attribute [local irreducible] nmL nmZ
theorem head_get (s : ByteArray) (h : 0 < s.size) : s.data.toList.head? = some (s[0]'h) := by
  cases e : s.data.toList with
  | nil =>
    exfalso
    have h2 : s.data.toList.length = s.size := by simp
    rw [e] at h2
    have h3 : ([] : List UInt8).length = 0 := rfl
    omega
  | cons c r =>
    have : s.data.toList[0]? = some c := by rw [e]; rfl
    have h2 : s.data.toList[0]? = some (s[0]'h) := by
      rw [List.getElem?_eq_getElem (by simpa using h)]; rfl
    rw [this] at h2
    exact h2
theorem get_bs (s : ByteArray) (k : Nat) (h : k < s.size) : s.data.toList[k]? = some (s[k]'h) := by
  rw [List.getElem?_eq_getElem (by simpa using h)]; rfl
set_option maxRecDepth 100000 in
set_option maxHeartbeats 3200000 in
theorem numberOf_any (s : ByteArray) (most : Nat) (w : World) (hm : most ≤ 18) (hs : s.size ≤ 1000000000) :
    Calls Tryz.prog 60 #[.string s, .int .i64 most] w fun e w' => e = .returned (.int .i64 (nmZ most s.data.toList)) ∧ w = w' := by
  have hl : s.data.toList.length = s.size := by simp
  have HS := Lib.hid (fun h => nmZ_none (nm_short (most := most) (d := s.data.toList) h))
  have HG := Lib.hid (fun h => nmZ_none (nm_long (most := most) (d := s.data.toList) h))
  have HZ := Lib.hid (fun h h2 => nmZ_none (nm_zero (most := most) (d := s.data.toList) h h2))
  have HR := Lib.hid (fun h1 h2 h3 => nm_rest (most := most) (d := s.data.toList) h1 h2 h3)
  have HB := Lib.hid (fun k c n h1 h2 => nm_bad (d := s.data.toList) (k := k) (c := c) (n := n) h1 h2)
  have HN := Lib.hid (fun k c n h1 h2 h3 h4 => nm_step (d := s.data.toList) (k := k) (c := c) (n := n) h1 h2 h3 h4)
  have HGET := Lib.hid (fun k h => get_bs s k h)
  have HHD := Lib.hid (fun h => head_get s h)
  have HBD := Lib.hid (fun k n (h : Lib.decFrom 0 (s.data.toList.take k) = some n) (hk : k ≤ 17) => nm_bound17 h (by rw [List.length_take]; omega))
  have HL := Lib.hid hl
  have ZS := Lib.hid (fun n (h : nmL most s.data.toList = some n) => nmZ_some h)
  have ZN := Lib.hid (fun (h : nmL most s.data.toList = none) => nmZ_none h)
  have HTK : Hid (s.data.toList.take s.size = s.data.toList) := List.take_of_length_le (by rw [hl]; omega)
  have HT0 : Hid (Lib.decFrom 0 (s.data.toList.take 0) = some 0) := rfl
  clear hl
  generalize s.data.toList = L at *
  by_cases h1 : s.size < 1
  · have Z := Lib.hid (HS.out (by rw [HL.out]; omega))
    have h1I : (s.size : Int) < 1 := by omega
    clear HS HG HZ HR HB HN
    go_enter Tryz.func60, Tryz.ntmps60
    go_wp2_with fail
    go_ret
    exact ⟨by rw [Z.out]; rfl, rfl⟩
  · have h1I : ¬ (s.size : Int) < 1 := by omega
    by_cases h2 : most < s.size
    · have Z := Lib.hid (HG.out (by rw [HL.out]; omega))
      have h2I : (most : Int) < s.size := by omega
      clear HS HG HZ HR HB HN
      go_enter Tryz.func60, Tryz.ntmps60
      go_wp2_with fail
      go_ret
      exact ⟨by rw [Z.out]; rfl, rfl⟩
    · have h2I : ¬ (most : Int) < s.size := by omega
      have hs18 : s.size ≤ 18 := by omega
      have h0 : 0 < s.size := by omega
      have hhd := HHD.out h0
      have hcb : (s[0]'h0).toNat < 256 := (s[0]'h0).toNat_lt
      by_cases h3 : 1 < s.size ∧ (s[0]'h0) = 48
      · have Z := Lib.hid (HZ.out (by rw [HL.out]; exact h3.1) (by rw [hhd, h3.2]))
        have h3I : (1 : Int) < s.size := by omega
        have h3b : (((s[0]'h0).toNat : Int) == 48) = true := by rw [h3.2]; rfl
        clear HS HG HZ HR HB HN h3 hhd
        go_enter Tryz.func60, Tryz.ntmps60
        go_wp2_with fail
        go_ret
        exact ⟨by rw [Z.out]; rfl, rfl⟩
      · have HREST := Lib.hid (HR.out (by rw [HL.out]; omega) (by rw [HL.out]; omega) (by rw [HL.out, hhd]; intro h; exact h3 ⟨h.1, Option.some.inj h.2⟩))
        have hor : ¬ (1 : Int) < s.size ∨ (1 : Int) < s.size ∧ (((s[0]'h0).toNat : Int) == 48) = false := by
          by_cases h : s.size = 1
          · exact .inl (by omega)
          · refine .inr ⟨by omega, ?_⟩
            rw [beq_eq_false_iff_ne]
            intro e
            exact h3 ⟨by omega, UInt8.toNat_inj.1 (by have : (48 : UInt8).toNat = 48 := rfl; omega)⟩
        clear HS HG HZ HR hhd h3 h1 h2 HHD
        rcases hor with hI | ⟨hI, hb0⟩
        all_goals
          go_enter Tryz.func60, Tryz.ntmps60
          go_wp2_with fail
          go_loop [5, 6] (fun n i => ∃ k acc : Nat, k ≤ s.size ∧ i = .int .i64 k ∧ n = .int .i64 acc ∧ Lib.decFrom 0 (L.take k) = some acc) (fun _ i => s.size - (intOf i).toNat)
          case atStart => exact ⟨0, 0, by omega, rfl, rfl, HT0.out⟩
          case round =>
            obtain ⟨k, acc, hk, rfl, rfl, hdec⟩ := hrel
            by_cases hlt : k < s.size
            · have hltI : (k : Int) < s.size := by omega
              have hc := HGET.out k hlt
              have hacc := HBD.out k acc hdec (by omega)
              have hcb : (s[k]'hlt).toNat < 256 := (s[k]'hlt).toNat_lt
              have x1 : (0 : Int) ≤ k := by omega
              by_cases hd : 48 ≤ (s[k]'hlt).toNat ∧ (s[k]'hlt).toNat ≤ 57
              · obtain ⟨hd1, hd2⟩ := hd
                have STEP := Lib.hid (HN.out k _ acc hdec hc hd1 hd2)
                have KK := Lib.hid (show k + 1 ≤ s.size from hlt)
                have hdI1 : ¬ ((s[k]'hlt).toNat : Int) < 48 := by omega
                have hdI2 : ¬ (57 : Int) < (s[k]'hlt).toNat := by omega
                have EQ : Hid (((10 * acc + ((s[k]'hlt).toNat - 48) : Nat) : Int) = 10 * (acc : Int) + (((s[k]'hlt).toNat : Int) - 48)) := by show _ = _; omega
                clear hc hdec
                go_wp2_with fail
                go_round
                case rel => exact ⟨k + 1, 10 * acc + ((s[k]'hlt).toNat - 48), KK.out, by go_num, by rw [EQ.out], STEP.out⟩
                case measure => simp [intOf]; omega
              · have Z := Lib.hid (ZN.out (HREST.out.trans (HB.out k _ acc hc hd)))
                have hor2 : (s[k]'hlt).toNat < 48 ∨ 48 ≤ (s[k]'hlt).toNat ∧ 57 < (s[k]'hlt).toNat := by omega
                clear hc hdec hd
                rcases hor2 with hd | ⟨hd, hd'⟩
                · have hdI1 : ((s[k]'hlt).toNat : Int) < 48 := by omega
                  go_wp2_with fail
                  go_ret
                  exact ⟨by rw [Z.out]; rfl, rfl⟩
                · have hdI1 : ¬ ((s[k]'hlt).toNat : Int) < 48 := by omega
                  have hdI2 : (57 : Int) < (s[k]'hlt).toNat := by omega
                  go_wp2_with fail
                  go_ret
                  exact ⟨by rw [Z.out]; rfl, rfl⟩
            · have hltI : ¬ (k : Int) < s.size := by omega
              have hks : k = s.size := by omega
              rw [hks, HTK.out] at hdec
              have Z := Lib.hid (ZS.out acc (HREST.out.trans hdec))
              clear hdec hks
              go_wp2_with fail
              go_ret
              exact ⟨by rw [Z.out]; rfl, rfl⟩
end Go.Proofs.YtkjcclbnbbbfaaaGreatDoor
