/- Texts of one proof, one behind the other: FilName, RefName. -/
import Derived.Test.YtdpoalbbcmkceaaGreatDoorB11
import Derived.Test.YtdpoalbbcmkceaaGreatDoorB13
import Derived.Test.YtdpoalbbcmkceaaGreatDoorB06
/- Contract of files.Name. -/
namespace Go.Proofs.YtdpoalbbcmkceaaGreatDoor
open Go.RowKit
set_option linter.unusedVariables false

def cutS : List UInt8 := [97, 98, 99, 100, 101, 102, 103, 104, 105, 106, 107, 108, 109, 110, 111, 112, 113, 114, 115, 116, 117, 118, 119, 120, 121, 122, 48, 49, 50, 51, 52, 53, 54, 55, 56, 57, 46, 45]
theorem cut_nch (c : UInt8) : cutS.contains c = nchB c := by
  have h : ∀ n : Fin 256, cutS.contains (UInt8.ofFin n) = nchB (UInt8.ofFin n) := by decide +kernel
  have := h c.toFin
  simpa using this
theorem dw_head (p : UInt8 → Bool) (l : List UInt8) : (l.dropWhile p = [] ∧ ∀ x ∈ l, p x = true) ∨ ∃ x r, l.dropWhile p = x :: r ∧ p x = false ∧ x ∈ l := by
  induction l with
  | nil => exact .inl ⟨rfl, by simp⟩
  | cons a l ih =>
    rw [List.dropWhile_cons]
    cases h : p a with
    | false => exact .inr ⟨a, l, by simp, h, by simp⟩
    | true =>
      simp only [if_true]
      rcases ih with ⟨h1, h2⟩ | ⟨x, r, h1, h2, h3⟩
      · refine .inl ⟨h1, fun x hx => ?_⟩
        rcases List.mem_cons.1 hx with rfl | hx
        · exact h
        · exact h2 x hx
      · exact .inr ⟨x, r, h1, h2, by simp [h3]⟩
theorem trimS_all (l cs : List UInt8) : (Lib.trimS l cs == []) = l.all (fun c => cs.contains c) := by
  unfold Lib.trimS Lib.trimRightS Lib.trimLeftS
  rcases dw_head (cs.contains ·) l.reverse with ⟨h1, h2⟩ | ⟨x, r, h1, h2, h3⟩
  · rw [h1]
    have : l.all (fun c => cs.contains c) = true := List.all_eq_true.2 (fun x hx => h2 x (by simpa using hx))
    rw [this]; rfl
  · rw [h1]
    have hf : l.all (fun c => cs.contains c) = false := by
      rw [List.all_eq_false]
      exact ⟨x, by simpa using h3, by simpa using h2⟩
    rw [hf]
    rcases dw_head (cs.contains ·) (x :: r).reverse with ⟨k1, k2⟩ | ⟨y, s, k1, k2, k3⟩
    · have := k2 x (by simp)
      rw [h2] at this; cases this
    · rw [k1]; rfl
theorem cut_val : (⟨cutS.toArray⟩ : ByteArray) = ⟨#[97, 98, 99, 100, 101, 102, 103, 104, 105, 106, 107, 108, 109, 110, 111, 112, 113, 114, 115, 116, 117, 118, 119, 120, 121, 122, 48, 49, 50, 51, 52, 53, 54, 55, 56, 57, 46, 45]⟩ := rfl
theorem trim_any (s : List UInt8) (w : World) (hs : s.length ≤ maxLen) :
    Calls Tryz.prog 81 #[.string (bs s), .string ⟨#[97, 98, 99, 100, 101, 102, 103, 104, 105, 106, 107, 108, 109, 110, 111, 112, 113, 114, 115, 116, 117, 118, 119, 120, 121, 122, 48, 49, 50, 51, 52, 53, 54, 55, 56, 57, 46, 45]⟩] w fun e w' => ∃ t, e = .returned (.string (bs t)) ∧ (t == []) = s.all nchB ∧ Below w.heap.size w w' := by
  rw [← cut_val]
  refine (Tryz.strings_Trim_set (bs s) ⟨cutS.toArray⟩ w (by rw [bs_size]; unfold maxLen at hs; omega) (by decide) (fun j b hb => ?_)).mono ?_
  · have hm : b ∈ cutS := List.mem_of_getElem? (by simpa using hb)
    have : ∀ c ∈ cutS, c.toNat < 128 := by decide
    exact this b hm
  · rintro e w' ⟨rfl, hb⟩
    refine ⟨Lib.trimS (bs s).data.toList cutS, by unfold bs; rfl, ?_, hb⟩
    rw [bs_list]
    show (Lib.trimS s cutS == []) = _
    rw [trimS_all]
    congr 1
    funext c
    exact cut_nch c
set_option maxRecDepth 100000 in
set_option maxHeartbeats 3200000 in
theorem flname_any (s : List UInt8) (w : World) (hs : s.length ≤ maxLen) :
    Calls Tryz.prog 50 #[.string (bs s)] w fun e w' => e = .returned (.bool (nameB s)) ∧ Below w.heap.size w w' := by
  have hsz : (bs s).size = s.length := bs_size s
  have HD := Lib.hid (show nameB s = (decide (1 ≤ s.length) && decide (s.length ≤ 12) && s.all nchB) from rfl)
  have TR := Lib.hid (fun w' => trim_any s w' hs)
  unfold maxLen at hs
  have htl : (bs s).toList = s := by rw [ByteArray.toList_eq, bs_list]
  by_cases h0 : s = []
  · subst h0
    have HB := Lib.hid (Below.refl w.heap.size w)
    have hnil : (bs []).toList = [] := htl
    have hd : nameB [] = false := rfl
    rw [hd]
    clear htl hd HD
    go_enter Tryz.func50, Tryz.ntmps50
    go_wp2_with fail
    go_ret
    exact ⟨rfl, HB.out⟩
  · have hne : (bs s).toList.isEmpty = false := by rw [htl]; cases s <;> simp_all
    have hne2 : ¬ (bs s).toList = [] := by rw [htl]; exact h0
    have h1 : decide (1 ≤ s.length) = true := by cases s <;> simp_all
    rw [h1] at HD
    by_cases h12 : s.length ≤ 12
    · have hI : ((bs s).size : Int) ≤ 12 := by omega
      have hd2 : decide (s.length ≤ 12) = true := by simpa using h12
      rw [hd2] at HD
      generalize s.all nchB = x at HD TR
      generalize bs s = S at *
      clear htl hd2 h1 hsz
      go_enter Tryz.func50, Tryz.ntmps50
      go_wp2_with fail
      refine (TR.out _).mono ?_
      rintro e w1 ⟨t, rfl, ht, b1⟩
      have htl : (bs t).toList = t := by rw [ByteArray.toList_eq, bs_list]
      cases x with
      | true =>
        have h9 : t = [] := by simpa using ht
        have h9' : (bs t).toList = [] := by rw [htl]; exact h9
        clear ht htl h9
        generalize bs t = tt at *
        go_wp2_with fail
        go_ret
        exact ⟨by rw [HD.out]; rfl, b1⟩
      | false =>
        have h9 : t ≠ [] := by simpa using ht
        have h9' : (bs t).toList.isEmpty = false := by rw [htl]; cases t <;> simp_all
        have h9'' : ¬ (bs t).toList = [] := by rw [htl]; exact h9
        clear ht htl h9
        generalize bs t = tt at *
        go_wp2_with fail
        go_ret
        exact ⟨by rw [HD.out]; rfl, b1⟩
    · have hI : ¬ ((bs s).size : Int) ≤ 12 := by omega
      have hd2 : decide (s.length ≤ 12) = false := by simpa using h12
      rw [hd2] at HD
      have HB := Lib.hid (Below.refl w.heap.size w)
      generalize bs s = S at *
      clear htl hd2 h1 hsz TR
      go_enter Tryz.func50, Tryz.ntmps50
      go_wp2_with fail
      go_ret
      exact ⟨by rw [HD.out]; rfl, HB.out⟩
end Go.Proofs.YtdpoalbbcmkceaaGreatDoor
/- The document's IsName. -/
namespace Go.Proofs.YtdpoalbbcmkceaaGreatDoor
open Go.RowKit
set_option linter.unusedVariables false
theorem nch_nat (c : UInt8) : nchB c = ((decide (97 ≤ c.toNat) && decide (c.toNat ≤ 122)) || (decide (48 ≤ c.toNat) && decide (c.toNat ≤ 57)) || c.toNat == 46 || c.toNat == 45) := by
  have h : ∀ n : Fin 256, nchB (UInt8.ofFin n) = ((decide (97 ≤ (UInt8.ofFin n).toNat) && decide ((UInt8.ofFin n).toNat ≤ 122)) || (decide (48 ≤ (UInt8.ofFin n).toNat) && decide ((UInt8.ofFin n).toNat ≤ 57)) || (UInt8.ofFin n).toNat == 46 || (UInt8.ofFin n).toNat == 45) := by decide +kernel
  have := h c.toFin
  simpa using this
set_option maxRecDepth 100000 in
set_option maxHeartbeats 3200000 in
theorem isName_b (s : ByteArray) (w : World) (hs : s.size ≤ 1000000000) :
    Calls Tryz.prog 45 #[.string s] w fun e w' => e = .returned (.bool (nameB s.data.toList)) ∧ w' = w := by
  have HL := Lib.hid (show s.data.toList.length = s.size from rfl)
  have HN := Lib.hid (show nameB s.data.toList = (decide (1 ≤ s.size) && decide (s.size ≤ 12) && s.data.toList.all nchB) from rfl)
  generalize nameB s.data.toList = res at *
  go_enter Tryz.func45, Tryz.ntmps45
  go_wp2_with fail
  go_loopw [3, 4, 5] (fun i _ _ wr => ∃ k : Nat, i = .int .i64 k ∧ k ≤ s.size ∧ s.data.toList.all nchB = (s.data.toList.drop k).all nchB ∧ wr = w) (fun i _ _ _ => s.size - (intOf i).toNat)
  case atStart => exact ⟨0, rfl, by omega, rfl, rfl⟩
  case round =>
    obtain ⟨k, rfl, hk, hr, rfl⟩ := hrel
    have HR := Lib.hid hr
    clear hr
    by_cases hlt : k < s.size
    · have hltI : (k : Int) < s.size := by omega
      have hdrop : s.data.toList.drop k = (s[k]'hlt) :: s.data.toList.drop (k + 1) := by
        rw [List.drop_eq_getElem_cons (by rw [HL.out]; exact hlt)]; rfl
      have NX := Lib.hid (show s.data.toList.all nchB = (nchB (s[k]'hlt) && (s.data.toList.drop (k + 1)).all nchB) by rw [HR.out, hdrop, List.all_cons])
      have NX2 := Lib.hid (fun (b : Bool) (h : nchB (s[k]'hlt) = b) => (show s.data.toList.all nchB = (b && (s.data.toList.drop (k + 1)).all nchB) by rw [← h]; exact NX.out))
      have KK := Lib.hid (show k + 1 ≤ s.size by omega)
      have x1 : (0 : Int) ≤ k := by omega
      have x2 : (k : Int).toNat = k := by omega
      have hcb : (s[k]'hlt).toNat < 256 := (s[k]'hlt).toNat_lt
      clear hdrop
      have cls : ((97 : Int) ≤ (s[k]'hlt).toNat ∧ ((s[k]'hlt).toNat : Int) ≤ 122 ∧ (48 : Int) ≤ (s[k]'hlt).toNat ∧ ¬ ((s[k]'hlt).toNat : Int) ≤ 57 ∧ ¬ ((s[k]'hlt).toNat : Int) = 46 ∧ ¬ ((s[k]'hlt).toNat : Int) = 45) ∨ ((97 : Int) ≤ (s[k]'hlt).toNat ∧ ¬ ((s[k]'hlt).toNat : Int) ≤ 122 ∧ (48 : Int) ≤ (s[k]'hlt).toNat ∧ ¬ ((s[k]'hlt).toNat : Int) ≤ 57 ∧ ¬ ((s[k]'hlt).toNat : Int) = 46 ∧ ¬ ((s[k]'hlt).toNat : Int) = 45) ∨ (¬ (97 : Int) ≤ (s[k]'hlt).toNat ∧ ((s[k]'hlt).toNat : Int) ≤ 122 ∧ (48 : Int) ≤ (s[k]'hlt).toNat ∧ ((s[k]'hlt).toNat : Int) ≤ 57 ∧ ¬ ((s[k]'hlt).toNat : Int) = 46 ∧ ¬ ((s[k]'hlt).toNat : Int) = 45) ∨ (¬ (97 : Int) ≤ (s[k]'hlt).toNat ∧ ((s[k]'hlt).toNat : Int) ≤ 122 ∧ (48 : Int) ≤ (s[k]'hlt).toNat ∧ ¬ ((s[k]'hlt).toNat : Int) ≤ 57 ∧ ¬ ((s[k]'hlt).toNat : Int) = 46 ∧ ¬ ((s[k]'hlt).toNat : Int) = 45) ∨ (¬ (97 : Int) ≤ (s[k]'hlt).toNat ∧ ((s[k]'hlt).toNat : Int) ≤ 122 ∧ ¬ (48 : Int) ≤ (s[k]'hlt).toNat ∧ ((s[k]'hlt).toNat : Int) ≤ 57 ∧ ¬ ((s[k]'hlt).toNat : Int) = 46 ∧ ¬ ((s[k]'hlt).toNat : Int) = 45) ∨ (s[k]'hlt).toNat = 46 ∨ (s[k]'hlt).toNat = 45 := by omega
      rcases cls with ⟨k1, k2, k3, k4, k5, k6⟩ | ⟨k1, k2, k3, k4, k5, k6⟩ | ⟨k1, k2, k3, k4, k5, k6⟩ | ⟨k1, k2, k3, k4, k5, k6⟩ | ⟨k1, k2, k3, k4, k5, k6⟩ | e1 | e1
      case inr.inl =>
        have j5 : (((s[k]'hlt).toNat : Int) != 46) = true := by simpa using k5
        have j6 : (((s[k]'hlt).toNat : Int) != 45) = true := by simpa using k6
        have Y := Lib.hid (show res = false by rw [HN.out, NX2.out false (by rw [nch_nat]; simp; omega)]; simp)
        go_wp2_with fail
        go_ret
        exact ⟨by first | rfl | (rw [Y.out]; rfl), rfl⟩
      case inr.inr.inr.inl =>
        have j5 : (((s[k]'hlt).toNat : Int) != 46) = true := by simpa using k5
        have j6 : (((s[k]'hlt).toNat : Int) != 45) = true := by simpa using k6
        have Y := Lib.hid (show res = false by rw [HN.out, NX2.out false (by rw [nch_nat]; simp; omega)]; simp)
        go_wp2_with fail
        go_ret
        exact ⟨by first | rfl | (rw [Y.out]; rfl), rfl⟩
      case inr.inr.inr.inr.inl =>
        have j5 : (((s[k]'hlt).toNat : Int) != 46) = true := by simpa using k5
        have j6 : (((s[k]'hlt).toNat : Int) != 45) = true := by simpa using k6
        have Y := Lib.hid (show res = false by rw [HN.out, NX2.out false (by rw [nch_nat]; simp; omega)]; simp)
        go_wp2_with fail
        go_ret
        exact ⟨by first | rfl | (rw [Y.out]; rfl), rfl⟩
      case inl =>
        have Y := Lib.hid (show s.data.toList.all nchB = (s.data.toList.drop (k + 1)).all nchB by rw [NX2.out true (by rw [nch_nat]; simp; omega)]; rfl)
        go_wp2_with fail
        go_roundw
        case rel => exact ⟨k + 1, by go_num, KK.out, Y.out, by first | rfl | trivial⟩
        case measure => simp [intOf]; omega
      case inr.inr.inl =>
        have Y := Lib.hid (show s.data.toList.all nchB = (s.data.toList.drop (k + 1)).all nchB by rw [NX2.out true (by rw [nch_nat]; simp; omega)]; rfl)
        go_wp2_with fail
        go_roundw
        case rel => exact ⟨k + 1, by go_num, KK.out, Y.out, by first | rfl | trivial⟩
        case measure => simp [intOf]; omega
      all_goals
        have Y := Lib.hid (show s.data.toList.all nchB = (s.data.toList.drop (k + 1)).all nchB by rw [NX2.out true (by rw [nch_nat]; simp; omega)]; rfl)
        go_wp2_with fail
        go_roundw
        case rel => exact ⟨k + 1, by go_num, KK.out, Y.out, by first | rfl | trivial⟩
        case measure => simp [intOf]; omega
    · have hltI : ¬ (k : Int) < s.size := by omega
      have hall : s.data.toList.all nchB = true := by rw [HR.out, List.drop_of_length_le (by rw [HL.out]; omega)]; rfl
      have Y := Lib.hid (show res = (decide (1 ≤ s.size) && decide (s.size ≤ 12)) by rw [HN.out, hall, Bool.and_true])
      clear hall
      by_cases h1 : 1 ≤ s.size
      · have h1I : (1 : Int) ≤ s.size := by omega
        by_cases h2 : s.size ≤ 12
        · have h2I : (s.size : Int) ≤ 12 := by omega
          go_wp2_with fail
          go_ret
          exact ⟨by first | rfl | (rw [Y.out]; simp [h1, h2]), rfl⟩
        · have h2I : ¬ (s.size : Int) ≤ 12 := by omega
          go_wp2_with fail
          go_ret
          exact ⟨by first | rfl | (rw [Y.out]; simp [h1, h2]), rfl⟩
      · have h1I : ¬ (1 : Int) ≤ s.size := by omega
        go_wp2_with fail
        go_ret
        exact ⟨by first | rfl | (rw [Y.out]; simp [h1]), rfl⟩
theorem isName_any (s : List UInt8) (w : World) (hs : s.length ≤ 1000000000) :
    Calls Tryz.prog 45 #[.string (bs s)] w fun e w' => e = .returned (.bool (nameB s)) ∧ w' = w := by
  have h := isName_b (bs s) w (by rw [bs_size]; exact hs)
  rw [bs_list] at h
  exact h
end Go.Proofs.YtdpoalbbcmkceaaGreatDoor
