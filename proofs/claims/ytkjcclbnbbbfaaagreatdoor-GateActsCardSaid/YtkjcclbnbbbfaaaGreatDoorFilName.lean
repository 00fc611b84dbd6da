/- Contract of files.Name. -/
import Derived.Test.YtkjcclbnbbbfaaaGreatDoorFilPlain
import Derived.Test.YtkjcclbnbbbfaaaGreatDoorShelfT
import Derived.Test.YtkjcclbnbbbfaaaGreatDoorMem
namespace Go.Proofs.YtkjcclbnbbbfaaaGreatDoor
open Go.RowKit
set_option linter.unusedVariables false

def cutS : List UInt8 := [97, 98, 99, 100, 101, 102, 103, 104, 105, 106, 107, 108, 109, 110, 111, 112, 113, 114, 115, 116, 117, 118, 119, 120, 121, 122, 48, 49, 50, 51, 52, 53, 54, 55, 56, 57, 46, 45]
theorem cut_nch (c : UInt8) : cutS.contains c = nchB c := by
  have h : ∀ n : Fin 256, cutS.contains (UInt8.ofFin n) = nchB (UInt8.ofFin n) := by decide +kernel
  have := h c.toFin
  simpa using this
theorem dw_head (p : UInt8 → Bool) (l : List UInt8) : (l.dropWhile p = [] ∧ ∀ x ∈ l, p x = true) ∨ ∃ x r, l.dropWhile p = x :: r ∧ p x = false ∧ x ∈ l := by
  induction l with
  | nil => exact .inl ⟨rfl, by simp⟩
  | cons a l ih =>
    rw [List.dropWhile_cons]
    cases h : p a with
    | false => exact .inr ⟨a, l, by simp, h, by simp⟩
    | true =>
      simp only [if_true]
      rcases ih with ⟨h1, h2⟩ | ⟨x, r, h1, h2, h3⟩
      · refine .inl ⟨h1, fun x hx => ?_⟩
        rcases List.mem_cons.1 hx with rfl | hx
        · exact h
        · exact h2 x hx
      · exact .inr ⟨x, r, h1, h2, by simp [h3]⟩
theorem trimS_all (l cs : List UInt8) : (Lib.trimS l cs == []) = l.all (fun c => cs.contains c) := by
  unfold Lib.trimS Lib.trimRightS Lib.trimLeftS
  rcases dw_head (cs.contains ·) l.reverse with ⟨h1, h2⟩ | ⟨x, r, h1, h2, h3⟩
  · rw [h1]
    have : l.all (fun c => cs.contains c) = true := List.all_eq_true.2 (fun x hx => h2 x (by simpa using hx))
    rw [this]; rfl
  · rw [h1]
    have hf : l.all (fun c => cs.contains c) = false := by
      rw [List.all_eq_false]
      exact ⟨x, by simpa using h3, by simpa using h2⟩
    rw [hf]
    rcases dw_head (cs.contains ·) (x :: r).reverse with ⟨k1, k2⟩ | ⟨y, s, k1, k2, k3⟩
    · have := k2 x (by simp)
      rw [h2] at this; cases this
    · rw [k1]; rfl
theorem cut_val : (⟨cutS.toArray⟩ : ByteArray) = ⟨#[97, 98, 99, 100, 101, 102, 103, 104, 105, 106, 107, 108, 109, 110, 111, 112, 113, 114, 115, 116, 117, 118, 119, 120, 121, 122, 48, 49, 50, 51, 52, 53, 54, 55, 56, 57, 46, 45]⟩ := rfl
theorem trim_any (s : List UInt8) (w : World) (hs : s.length ≤ maxLen) :
    Calls Tryz.prog 117 #[.string (bs s), .string ⟨#[97, 98, 99, 100, 101, 102, 103, 104, 105, 106, 107, 108, 109, 110, 111, 112, 113, 114, 115, 116, 117, 118, 119, 120, 121, 122, 48, 49, 50, 51, 52, 53, 54, 55, 56, 57, 46, 45]⟩] w fun e w' => ∃ t, e = .returned (.string (bs t)) ∧ (t == []) = s.all nchB ∧ Below w.heap.size w w' := by
  rw [← cut_val]
  refine (Tryz.strings_Trim_set (bs s) ⟨cutS.toArray⟩ w (by rw [bs_size]; unfold maxLen at hs; omega) (by decide) (fun j b hb => ?_)).mono ?_
  · have hm : b ∈ cutS := List.mem_of_getElem? (by simpa using hb)
    have : ∀ c ∈ cutS, c.toNat < 128 := by decide
    exact this b hm
  · rintro e w' ⟨rfl, hb⟩
    refine ⟨Lib.trimS (bs s).data.toList cutS, by unfold bs; rfl, ?_, hb⟩
    rw [bs_list]
    show (Lib.trimS s cutS == []) = _
    rw [trimS_all]
    congr 1
    funext c
    exact cut_nch c
set_option maxRecDepth 100000 in
set_option maxHeartbeats 3200000 in
theorem flname_any (s : List UInt8) (w : World) (hs : s.length ≤ maxLen) :
    Calls Tryz.prog 78 #[.string (bs s)] w fun e w' => e = .returned (.bool (nameB s)) ∧ Below w.heap.size w w' := by
  have hsz : (bs s).size = s.length := bs_size s
  have HD := Lib.hid (show nameB s = (decide (1 ≤ s.length) && decide (s.length ≤ 12) && s.all nchB) from rfl)
  have TR := Lib.hid (fun w' => trim_any s w' hs)
  unfold maxLen at hs
  have htl : (bs s).toList = s := by rw [ByteArray.toList_eq, bs_list]
  by_cases h0 : s = []
  · subst h0
    have HB := Lib.hid (Below.refl w.heap.size w)
    have hnil : (bs []).toList = [] := htl
    have hd : nameB [] = false := rfl
    rw [hd]
    clear htl hd HD
    go_enter Tryz.func78, Tryz.ntmps78
    go_wp2_with fail
    go_ret
    exact ⟨rfl, HB.out⟩
  · have hne : (bs s).toList.isEmpty = false := by rw [htl]; cases s <;> simp_all
    have hne2 : ¬ (bs s).toList = [] := by rw [htl]; exact h0
    have h1 : decide (1 ≤ s.length) = true := by cases s <;> simp_all
    rw [h1] at HD
    by_cases h12 : s.length ≤ 12
    · have hI : ((bs s).size : Int) ≤ 12 := by omega
      have hd2 : decide (s.length ≤ 12) = true := by simpa using h12
      rw [hd2] at HD
      generalize s.all nchB = x at HD TR
      generalize bs s = S at *
      clear htl hd2 h1 hsz
      go_enter Tryz.func78, Tryz.ntmps78
      go_wp2_with fail
      refine (TR.out _).mono ?_
      rintro e w1 ⟨t, rfl, ht, b1⟩
      have htl : (bs t).toList = t := by rw [ByteArray.toList_eq, bs_list]
      cases x with
      | true =>
        have h9 : t = [] := by simpa using ht
        have h9' : (bs t).toList = [] := by rw [htl]; exact h9
        clear ht htl h9
        generalize bs t = tt at *
        go_wp2_with fail
        go_ret
        exact ⟨by rw [HD.out]; rfl, b1⟩
      | false =>
        have h9 : t ≠ [] := by simpa using ht
        have h9' : (bs t).toList.isEmpty = false := by rw [htl]; cases t <;> simp_all
        have h9'' : ¬ (bs t).toList = [] := by rw [htl]; exact h9
        clear ht htl h9
        generalize bs t = tt at *
        go_wp2_with fail
        go_ret
        exact ⟨by rw [HD.out]; rfl, b1⟩
    · have hI : ¬ ((bs s).size : Int) ≤ 12 := by omega
      have hd2 : decide (s.length ≤ 12) = false := by simpa using h12
      rw [hd2] at HD
      have HB := Lib.hid (Below.refl w.heap.size w)
      generalize bs s = S at *
      clear htl hd2 h1 hsz TR
      go_enter Tryz.func78, Tryz.ntmps78
      go_wp2_with fail
      go_ret
      exact ⟨by rw [HD.out]; rfl, HB.out⟩
end Go.Proofs.YtkjcclbnbbbfaaaGreatDoor
