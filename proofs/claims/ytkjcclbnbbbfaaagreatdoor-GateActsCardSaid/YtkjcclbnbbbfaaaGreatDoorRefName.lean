/- The document's IsName. -/
import Derived.Test.YtkjcclbnbbbfaaaGreatDoorFilName
namespace Go.Proofs.YtkjcclbnbbbfaaaGreatDoor
open Go.RowKit
set_option linter.unusedVariables false
theorem nch_nat (c : UInt8) : nchB c = ((decide (97 ≤ c.toNat) && decide (c.toNat ≤ 122)) || (decide (48 ≤ c.toNat) && decide (c.toNat ≤ 57)) || c.toNat == 46 || c.toNat == 45) := by
  have h : ∀ n : Fin 256, nchB (UInt8.ofFin n) = ((decide (97 ≤ (UInt8.ofFin n).toNat) && decide ((UInt8.ofFin n).toNat ≤ 122)) || (decide (48 ≤ (UInt8.ofFin n).toNat) && decide ((UInt8.ofFin n).toNat ≤ 57)) || (UInt8.ofFin n).toNat == 46 || (UInt8.ofFin n).toNat == 45) := by decide +kernel
  have := h c.toFin
  simpa using this
set_option maxRecDepth 100000 in
set_option maxHeartbeats 3200000 in
theorem isName_b (s : ByteArray) (w : World) (hs : s.size ≤ 1000000000) :
    Calls Tryz.prog 61 #[.string s] w fun e w' => e = .returned (.bool (nameB s.data.toList)) ∧ w' = w := by
  have HL := Lib.hid (show s.data.toList.length = s.size from rfl)
  have HN := Lib.hid (show nameB s.data.toList = (decide (1 ≤ s.size) && decide (s.size ≤ 12) && s.data.toList.all nchB) from rfl)
  generalize nameB s.data.toList = res at *
  go_enter Tryz.func61, Tryz.ntmps61
  go_wp2_with fail
  go_loopw [3, 4, 5] (fun i _ _ wr => ∃ k : Nat, i = .int .i64 k ∧ k ≤ s.size ∧ s.data.toList.all nchB = (s.data.toList.drop k).all nchB ∧ wr = w) (fun i _ _ _ => s.size - (intOf i).toNat)
  case atStart => exact ⟨0, rfl, by omega, rfl, rfl⟩
  case round =>
    obtain ⟨k, rfl, hk, hr, rfl⟩ := hrel
    have HR := Lib.hid hr
    clear hr
    by_cases hlt : k < s.size
    · have hltI : (k : Int) < s.size := by omega
      have hdrop : s.data.toList.drop k = (s[k]'hlt) :: s.data.toList.drop (k + 1) := by
        rw [List.drop_eq_getElem_cons (by rw [HL.out]; exact hlt)]; rfl
      have NX := Lib.hid (show s.data.toList.all nchB = (nchB (s[k]'hlt) && (s.data.toList.drop (k + 1)).all nchB) by rw [HR.out, hdrop, List.all_cons])
      have NX2 := Lib.hid (fun (b : Bool) (h : nchB (s[k]'hlt) = b) => (show s.data.toList.all nchB = (b && (s.data.toList.drop (k + 1)).all nchB) by rw [← h]; exact NX.out))
      have KK := Lib.hid (show k + 1 ≤ s.size by omega)
      have x1 : (0 : Int) ≤ k := by omega
      have x2 : (k : Int).toNat = k := by omega
      have hcb : (s[k]'hlt).toNat < 256 := (s[k]'hlt).toNat_lt
      clear hdrop
      have cls : ((97 : Int) ≤ (s[k]'hlt).toNat ∧ ((s[k]'hlt).toNat : Int) ≤ 122 ∧ (48 : Int) ≤ (s[k]'hlt).toNat ∧ ¬ ((s[k]'hlt).toNat : Int) ≤ 57 ∧ ¬ ((s[k]'hlt).toNat : Int) = 46 ∧ ¬ ((s[k]'hlt).toNat : Int) = 45) ∨ ((97 : Int) ≤ (s[k]'hlt).toNat ∧ ¬ ((s[k]'hlt).toNat : Int) ≤ 122 ∧ (48 : Int) ≤ (s[k]'hlt).toNat ∧ ¬ ((s[k]'hlt).toNat : Int) ≤ 57 ∧ ¬ ((s[k]'hlt).toNat : Int) = 46 ∧ ¬ ((s[k]'hlt).toNat : Int) = 45) ∨ (¬ (97 : Int) ≤ (s[k]'hlt).toNat ∧ ((s[k]'hlt).toNat : Int) ≤ 122 ∧ (48 : Int) ≤ (s[k]'hlt).toNat ∧ ((s[k]'hlt).toNat : Int) ≤ 57 ∧ ¬ ((s[k]'hlt).toNat : Int) = 46 ∧ ¬ ((s[k]'hlt).toNat : Int) = 45) ∨ (¬ (97 : Int) ≤ (s[k]'hlt).toNat ∧ ((s[k]'hlt).toNat : Int) ≤ 122 ∧ (48 : Int) ≤ (s[k]'hlt).toNat ∧ ¬ ((s[k]'hlt).toNat : Int) ≤ 57 ∧ ¬ ((s[k]'hlt).toNat : Int) = 46 ∧ ¬ ((s[k]'hlt).toNat : Int) = 45) ∨ (¬ (97 : Int) ≤ (s[k]'hlt).toNat ∧ ((s[k]'hlt).toNat : Int) ≤ 122 ∧ ¬ (48 : Int) ≤ (s[k]'hlt).toNat ∧ ((s[k]'hlt).toNat : Int) ≤ 57 ∧ ¬ ((s[k]'hlt).toNat : Int) = 46 ∧ ¬ ((s[k]'hlt).toNat : Int) = 45) ∨ (s[k]'hlt).toNat = 46 ∨ (s[k]'hlt).toNat = 45 := by omega
      rcases cls with ⟨k1, k2, k3, k4, k5, k6⟩ | ⟨k1, k2, k3, k4, k5, k6⟩ | ⟨k1, k2, k3, k4, k5, k6⟩ | ⟨k1, k2, k3, k4, k5, k6⟩ | ⟨k1, k2, k3, k4, k5, k6⟩ | e1 | e1
      case inr.inl =>
        have j5 : (((s[k]'hlt).toNat : Int) != 46) = true := by simpa using k5
        have j6 : (((s[k]'hlt).toNat : Int) != 45) = true := by simpa using k6
        have Y := Lib.hid (show res = false by rw [HN.out, NX2.out false (by rw [nch_nat]; simp; omega)]; simp)
        go_wp2_with fail
        go_ret
        exact ⟨by first | rfl | (rw [Y.out]; rfl), rfl⟩
      case inr.inr.inr.inl =>
        have j5 : (((s[k]'hlt).toNat : Int) != 46) = true := by simpa using k5
        have j6 : (((s[k]'hlt).toNat : Int) != 45) = true := by simpa using k6
        have Y := Lib.hid (show res = false by rw [HN.out, NX2.out false (by rw [nch_nat]; simp; omega)]; simp)
        go_wp2_with fail
        go_ret
        exact ⟨by first | rfl | (rw [Y.out]; rfl), rfl⟩
      case inr.inr.inr.inr.inl =>
        have j5 : (((s[k]'hlt).toNat : Int) != 46) = true := by simpa using k5
        have j6 : (((s[k]'hlt).toNat : Int) != 45) = true := by simpa using k6
        have Y := Lib.hid (show res = false by rw [HN.out, NX2.out false (by rw [nch_nat]; simp; omega)]; simp)
        go_wp2_with fail
        go_ret
        exact ⟨by first | rfl | (rw [Y.out]; rfl), rfl⟩
      case inl =>
        have Y := Lib.hid (show s.data.toList.all nchB = (s.data.toList.drop (k + 1)).all nchB by rw [NX2.out true (by rw [nch_nat]; simp; omega)]; rfl)
        go_wp2_with fail
        go_roundw
        case rel => exact ⟨k + 1, by go_num, KK.out, Y.out, by first | rfl | trivial⟩
        case measure => simp [intOf]; omega
      case inr.inr.inl =>
        have Y := Lib.hid (show s.data.toList.all nchB = (s.data.toList.drop (k + 1)).all nchB by rw [NX2.out true (by rw [nch_nat]; simp; omega)]; rfl)
        go_wp2_with fail
        go_roundw
        case rel => exact ⟨k + 1, by go_num, KK.out, Y.out, by first | rfl | trivial⟩
        case measure => simp [intOf]; omega
      all_goals
        have Y := Lib.hid (show s.data.toList.all nchB = (s.data.toList.drop (k + 1)).all nchB by rw [NX2.out true (by rw [nch_nat]; simp; omega)]; rfl)
        go_wp2_with fail
        go_roundw
        case rel => exact ⟨k + 1, by go_num, KK.out, Y.out, by first | rfl | trivial⟩
        case measure => simp [intOf]; omega
    · have hltI : ¬ (k : Int) < s.size := by omega
      have hall : s.data.toList.all nchB = true := by rw [HR.out, List.drop_of_length_le (by rw [HL.out]; omega)]; rfl
      have Y := Lib.hid (show res = (decide (1 ≤ s.size) && decide (s.size ≤ 12)) by rw [HN.out, hall, Bool.and_true])
      clear hall
      by_cases h1 : 1 ≤ s.size
      · have h1I : (1 : Int) ≤ s.size := by omega
        by_cases h2 : s.size ≤ 12
        · have h2I : (s.size : Int) ≤ 12 := by omega
          go_wp2_with fail
          go_ret
          exact ⟨by first | rfl | (rw [Y.out]; simp [h1, h2]), rfl⟩
        · have h2I : ¬ (s.size : Int) ≤ 12 := by omega
          go_wp2_with fail
          go_ret
          exact ⟨by first | rfl | (rw [Y.out]; simp [h1, h2]), rfl⟩
      · have h1I : ¬ (1 : Int) ≤ s.size := by omega
        go_wp2_with fail
        go_ret
        exact ⟨by first | rfl | (rw [Y.out]; simp [h1]), rfl⟩
theorem isName_any (s : List UInt8) (w : World) (hs : s.length ≤ 1000000000) :
    Calls Tryz.prog 61 #[.string (bs s)] w fun e w' => e = .returned (.bool (nameB s)) ∧ w' = w := by
  have h := isName_b (bs s) w (by rw [bs_size]; exact hs)
  rw [bs_list] at h
  exact h
end Go.Proofs.YtkjcclbnbbbfaaaGreatDoor
