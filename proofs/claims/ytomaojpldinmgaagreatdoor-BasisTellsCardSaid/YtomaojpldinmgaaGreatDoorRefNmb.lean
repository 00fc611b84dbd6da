/- The document's NumberOf. -/
import Derived.Test.YtomaojpldinmgaaGreatDoorNmbPlain
import Derived.Test.YtomaojpldinmgaaGreatDoorRefByte
namespace Go.Proofs.YtomaojpldinmgaaGreatDoor
open Go.RowKit
set_option linter.unusedVariables false

attribute [local irreducible] nmL nmZ
theorem head_get (s : ByteArray) (h : 0 < s.size) : s.data.toList.head? = some (s[0]'h) := by
  cases e : s.data.toList with
  | nil =>
    exfalso
    have h2 : s.data.toList.length = s.size := by simp
    rw [e] at h2
    have h3 : ([] : List UInt8).length = 0 := rfl
    omega
  | cons c r =>
    have : s.data.toList[0]? = some c := by rw [e]; rfl
    have h2 : s.data.toList[0]? = some (s[0]'h) := by
      rw [List.getElem?_eq_getElem (by simpa using h)]; rfl
    rw [this] at h2
    exact h2
theorem get_bs (s : ByteArray) (k : Nat) (h : k < s.size) : s.data.toList[k]? = some (s[k]'h) := by
  rw [List.getElem?_eq_getElem (by simpa using h)]; rfl
set_option maxRecDepth 100000 in
set_option maxHeartbeats 3200000 in
theorem numberOf_any (s : ByteArray) (most : Nat) (w : World) (hm : most ≤ 18) (hs : s.size ≤ 1000000000) :
    Calls Tryz.prog 56 #[.string s, .int .i64 most] w fun e w' => e = .returned (.int .i64 (nmZ most s.data.toList)) ∧ w = w' := by
  have hl : s.data.toList.length = s.size := by simp
  have HS := Lib.hid (fun h => nmZ_none (nm_short (most := most) (d := s.data.toList) h))
  have HG := Lib.hid (fun h => nmZ_none (nm_long (most := most) (d := s.data.toList) h))
  have HZ := Lib.hid (fun h h2 => nmZ_none (nm_zero (most := most) (d := s.data.toList) h h2))
  have HR := Lib.hid (fun h1 h2 h3 => nm_rest (most := most) (d := s.data.toList) h1 h2 h3)
  have HB := Lib.hid (fun k c n h1 h2 => nm_bad (d := s.data.toList) (k := k) (c := c) (n := n) h1 h2)
  have HN := Lib.hid (fun k c n h1 h2 h3 h4 => nm_step (d := s.data.toList) (k := k) (c := c) (n := n) h1 h2 h3 h4)
  have HGET := Lib.hid (fun k h => get_bs s k h)
  have HHD := Lib.hid (fun h => head_get s h)
  have HBD := Lib.hid (fun k n (h : Lib.decFrom 0 (s.data.toList.take k) = some n) (hk : k ≤ 17) => nm_bound17 h (by rw [List.length_take]; omega))
  have HL := Lib.hid hl
  have ZS := Lib.hid (fun n (h : nmL most s.data.toList = some n) => nmZ_some h)
  have ZN := Lib.hid (fun (h : nmL most s.data.toList = none) => nmZ_none h)
  have HTK : Hid (s.data.toList.take s.size = s.data.toList) := List.take_of_length_le (by rw [hl]; omega)
  have HT0 : Hid (Lib.decFrom 0 (s.data.toList.take 0) = some 0) := rfl
  clear hl
  generalize s.data.toList = L at *
  by_cases h1 : s.size < 1
  · have Z := Lib.hid (HS.out (by rw [HL.out]; omega))
    have h1I : (s.size : Int) < 1 := by omega
    clear HS HG HZ HR HB HN
    go_enter Tryz.func56, Tryz.ntmps56
    go_wp2_with fail
    go_ret
    exact ⟨by rw [Z.out]; rfl, rfl⟩
  · have h1I : ¬ (s.size : Int) < 1 := by omega
    by_cases h2 : most < s.size
    · have Z := Lib.hid (HG.out (by rw [HL.out]; omega))
      have h2I : (most : Int) < s.size := by omega
      clear HS HG HZ HR HB HN
      go_enter Tryz.func56, Tryz.ntmps56
      go_wp2_with fail
      go_ret
      exact ⟨by rw [Z.out]; rfl, rfl⟩
    · have h2I : ¬ (most : Int) < s.size := by omega
      have hs18 : s.size ≤ 18 := by omega
      have h0 : 0 < s.size := by omega
      have hhd := HHD.out h0
      have hcb : (s[0]'h0).toNat < 256 := (s[0]'h0).toNat_lt
      by_cases h3 : 1 < s.size ∧ (s[0]'h0) = 48
      · have Z := Lib.hid (HZ.out (by rw [HL.out]; exact h3.1) (by rw [hhd, h3.2]))
        have h3I : (1 : Int) < s.size := by omega
        have h3b : (((s[0]'h0).toNat : Int) == 48) = true := by rw [h3.2]; rfl
        clear HS HG HZ HR HB HN h3 hhd
        go_enter Tryz.func56, Tryz.ntmps56
        go_wp2_with fail
        go_ret
        exact ⟨by rw [Z.out]; rfl, rfl⟩
      · have HREST := Lib.hid (HR.out (by rw [HL.out]; omega) (by rw [HL.out]; omega) (by rw [HL.out, hhd]; intro h; exact h3 ⟨h.1, Option.some.inj h.2⟩))
        have hor : ¬ (1 : Int) < s.size ∨ (1 : Int) < s.size ∧ (((s[0]'h0).toNat : Int) == 48) = false := by
          by_cases h : s.size = 1
          · exact .inl (by omega)
          · refine .inr ⟨by omega, ?_⟩
            rw [beq_eq_false_iff_ne]
            intro e
            exact h3 ⟨by omega, UInt8.toNat_inj.1 (by have : (48 : UInt8).toNat = 48 := rfl; omega)⟩
        clear HS HG HZ HR hhd h3 h1 h2 HHD
        rcases hor with hI | ⟨hI, hb0⟩
        all_goals
          go_enter Tryz.func56, Tryz.ntmps56
          go_wp2_with fail
          go_loop [5, 6] (fun n i => ∃ k acc : Nat, k ≤ s.size ∧ i = .int .i64 k ∧ n = .int .i64 acc ∧ Lib.decFrom 0 (L.take k) = some acc) (fun _ i => s.size - (intOf i).toNat)
          case atStart => exact ⟨0, 0, by omega, rfl, rfl, HT0.out⟩
          case round =>
            obtain ⟨k, acc, hk, rfl, rfl, hdec⟩ := hrel
            by_cases hlt : k < s.size
            · have hltI : (k : Int) < s.size := by omega
              have hc := HGET.out k hlt
              have hacc := HBD.out k acc hdec (by omega)
              have hcb : (s[k]'hlt).toNat < 256 := (s[k]'hlt).toNat_lt
              have x1 : (0 : Int) ≤ k := by omega
              by_cases hd : 48 ≤ (s[k]'hlt).toNat ∧ (s[k]'hlt).toNat ≤ 57
              · obtain ⟨hd1, hd2⟩ := hd
                have STEP := Lib.hid (HN.out k _ acc hdec hc hd1 hd2)
                have KK := Lib.hid (show k + 1 ≤ s.size from hlt)
                have hdI1 : ¬ ((s[k]'hlt).toNat : Int) < 48 := by omega
                have hdI2 : ¬ (57 : Int) < (s[k]'hlt).toNat := by omega
                have EQ : Hid (((10 * acc + ((s[k]'hlt).toNat - 48) : Nat) : Int) = 10 * (acc : Int) + (((s[k]'hlt).toNat : Int) - 48)) := by show _ = _; omega
                clear hc hdec
                go_wp2_with fail
                go_round
                case rel => exact ⟨k + 1, 10 * acc + ((s[k]'hlt).toNat - 48), KK.out, by go_num, by rw [EQ.out], STEP.out⟩
                case measure => simp [intOf]; omega
              · have Z := Lib.hid (ZN.out (HREST.out.trans (HB.out k _ acc hc hd)))
                have hor2 : (s[k]'hlt).toNat < 48 ∨ 48 ≤ (s[k]'hlt).toNat ∧ 57 < (s[k]'hlt).toNat := by omega
                clear hc hdec hd
                rcases hor2 with hd | ⟨hd, hd'⟩
                · have hdI1 : ((s[k]'hlt).toNat : Int) < 48 := by omega
                  go_wp2_with fail
                  go_ret
                  exact ⟨by rw [Z.out]; rfl, rfl⟩
                · have hdI1 : ¬ ((s[k]'hlt).toNat : Int) < 48 := by omega
                  have hdI2 : (57 : Int) < (s[k]'hlt).toNat := by omega
                  go_wp2_with fail
                  go_ret
                  exact ⟨by rw [Z.out]; rfl, rfl⟩
            · have hltI : ¬ (k : Int) < s.size := by omega
              have hks : k = s.size := by omega
              rw [hks, HTK.out] at hdec
              have Z := Lib.hid (ZS.out acc (HREST.out.trans hdec))
              clear hdec hks
              go_wp2_with fail
              go_ret
              exact ⟨by rw [Z.out]; rfl, rfl⟩
end Go.Proofs.YtomaojpldinmgaaGreatDoor
