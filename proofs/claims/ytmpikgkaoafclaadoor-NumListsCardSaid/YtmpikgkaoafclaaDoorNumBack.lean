/- NumBack: a number, and a text, are read as they were written. -/
import Derived.Test.YtmpikgkaoafclaaDoorNum
import Derived.Test.YtmpikgkaoafclaaDoorLaid
namespace Go.Proofs.YtmpikgkaoafclaaDoor
open Go.RowKit

theorem bs_mk (l : List UInt8) : bs l = ⟨l.toArray⟩ := by unfold bs; rfl
theorem put300 : putC 300 = 0 ∧ bs (putL 300) = ⟨#[172, 2]⟩ := ⟨by decide +kernel, by rw [bs_mk]; decide +kernel⟩
theorem get300 : gN [172, 2, 120, 121] = 300 ∧ bs (gR [172, 2, 120, 121]) = ⟨#[120, 121]⟩ ∧ gC [172, 2, 120, 121] = 0 := ⟨by decide +kernel, by rw [bs_mk]; decide +kernel, by decide +kernel⟩

theorem begins_is (n m : Nat) (hn : n ≤ 1099511627776) (hm : m ≤ 1099511627776) (h : (num n).length ≤ (num m).length) :
    ((((bs (num m)).extract 0 (num n).length).toList == (bs (num n)).toList) == ((n : Int) == (m : Int))) = true := by
  rw [bs_take]
  simp only [ByteArray.toList_eq, bs_list]
  by_cases e : n = m
  · subst e; simp
  · have h1 : ((num m).take (num n).length == num n) = false := by
      rw [beq_eq_false_iff_ne]
      intro h2
      refine e (num_begins n m ((num m).drop (num n).length) hn hm ?_)
      conv => rhs; lhs; rw [← h2]
      exact (List.take_append_drop _ _).symm
    have h2 : ((n : Int) == (m : Int)) = false := by simp; omega
    rw [h1, h2]; rfl

set_option maxRecDepth 100000 in
set_option maxHeartbeats 1600000 in
theorem numbered_ok (E : Nat → Addr) (w : World) (h1 : Has E w 1) (h2 : Has E w 2) :
    Calls Tryd.prog 16 #[] w fun e w' => e = .returned (.bool true) ∧ Below w.heap.size w w' := by
  have P := put_any E 300 w h2
  rw [put300.1, put300.2, ev_zero] at P
  have G : ∀ w', Has E w' 1 → Has E w' 2 → Calls Tryd.prog 19 #[.string ⟨#[172, 2, 120, 121]⟩] w' fun e w'' => e = .returned (.tuple #[.int .i64 300, .string ⟨#[120, 121]⟩, .nilIface]) ∧ Drew w' w'' := by
    intro w' h1 h2
    have G := get_any E ⟨#[172, 2, 120, 121]⟩ w' (by decide) h1 h2
    simp only [] at G
    rw [get300.1, get300.2.1, get300.2.2, ev_zero] at G
    exact G
  have GG := Lib.hid G
  have H1 := Lib.hid h1
  have H2 := Lib.hid h2
  clear G h1 h2
  go_enter Tryd.func16, Tryd.ntmps16
  go_wp2_with (first | (go_at_call 17; refine P.mono ?_; rintro e w' ⟨rfl, hb⟩) | (go_at_call 19; refine (GG.out _ (H1.out.below hb) (H2.out.below hb)).mono ?_; rintro e w' ⟨rfl, hb'⟩))
  go_ret
  exact ⟨rfl, below_trans' hb (hb'.below _)⟩

set_option maxRecDepth 100000 in
set_option maxHeartbeats 3200000 in
theorem numBack_walk (E : Nat → Addr) (a0 : Int) (a1 : Int) (a2 : ByteArray) (a3 : ByteArray) (_ : (Lit.int .i64 a0).wf = true) (_ : (Lit.int .i64 a1).wf = true) (_ : a2.size ≤ maxLen) (_ : a3.size ≤ maxLen) (w : World)
    (hE : ∀ c ∈ [1, 2], Has E w c ∧ Sent w (E c)) (_ : ∀ c ∈ [1, 2], ∀ c' ∈ [1, 2], c ≠ c' → E c ≠ E c') :
    Calls Tryd.prog 3 #[.int .i64 a0, .int .i64 a1, .string a2, .string a3] w fun e w' => e = .returned (.bool true) ∧ Below w.heap.size w w' := by
  have h1 : Has E w 1 := (hE 1 (by simp)).1
  have h2 : Has E w 2 := (hE 2 (by simp)).1
  clear hE
  have NB := numbered_ok E w h1 h2
  by_cases hyes : (0 ≤ a0 ∧ a0 ≤ 1099511627776) ∧ (0 ≤ a1 ∧ a1 ≤ 1099511627776) ∧ a2.size ≤ 300 ∧ a3.size ≤ 300
  · obtain ⟨⟨ha, ha'⟩, ⟨hb, hb'⟩, h3, h4⟩ := hyes
    obtain ⟨n, rfl⟩ : ∃ n : Nat, a0 = n := ⟨a0.toNat, by omega⟩
    obtain ⟨m, rfl⟩ : ∃ m : Nat, a1 = m := ⟨a1.toNat, by omega⟩
    have hn : n ≤ 1099511627776 := by omega
    have hm : m ≤ 1099511627776 := by omega
    have e1 : putC n = 0 ∧ putL n = num n := putC_yes ⟨ha, ha'⟩
    have e2 : putC m = 0 ∧ putL m = num m := putC_yes ⟨hb, hb'⟩
    have e3 := ptC_yes (l := a2.data.toList) (by simp; omega)
    have PN : ∀ w', Has E w' 2 → Calls Tryd.prog 17 #[.int .i64 n] w' fun e w'' => e = .returned (.tuple #[.string (bs (num n)), .nilIface]) ∧ Below w'.heap.size w' w'' := fun w' h => by
      have := put_any E n w' h; rw [e1.1, e1.2, ev_zero] at this; exact this
    have PM : ∀ w', Has E w' 2 → Calls Tryd.prog 17 #[.int .i64 m] w' fun e w'' => e = .returned (.tuple #[.string (bs (num m)), .nilIface]) ∧ Below w'.heap.size w' w'' := fun w' h => by
      have := put_any E m w' h; rw [e2.1, e2.2, ev_zero] at this; exact this
    have PT : ∀ w', Has E w' 2 → Calls Tryd.prog 18 #[.string a2] w' fun e w'' => e = .returned (.tuple #[.string (bs (ptL a2.data.toList)), .nilIface]) ∧ Below w'.heap.size w' w'' := fun w' h => by
      have := ptext_any E a2 w' (by omega) h; rw [e3.1, ev_zero] at this; exact this
    have G1 : ∀ w', Has E w' 1 → Has E w' 2 → Calls Tryd.prog 19 #[.string (bs (num n) ++ a3)] w' fun e w'' => e = .returned (.tuple #[.int .i64 n, .string a3, .nilIface]) ∧ Drew w' w'' := fun w' h h' => by
      have := get_any E (bs (num n) ++ a3) w' (by have := num_len n; simp; omega) h h'
      have ed : (bs (num n) ++ a3).data.toList = num n ++ a3.data.toList := by simp
      rw [ed, gN_num _ _ hn, gR_num _ _ hn, gC_num _ _ hn, ev_zero, bs_of] at this
      exact this
    have hpl : (ptL a2.data.toList).length ≤ 307 := by
      rw [e3.2]; have := num_len a2.data.toList.length; simp at this ⊢; omega
    have G2 : ∀ w', Has E w' 1 → Has E w' 2 → Calls Tryd.prog 20 #[.string (bs (ptL a2.data.toList) ++ a3)] w' fun e w'' => e = .returned (.tuple #[.string a2, .string a3, .nilIface]) ∧ Drew w' w'' := fun w' h h' => by
      have := gtext_any E (bs (ptL a2.data.toList) ++ a3) w' (by simp; omega) h h'
      have ed : (bs (ptL a2.data.toList) ++ a3).data.toList = num a2.data.toList.length ++ a2.data.toList ++ a3.data.toList := by simp [e3.2]
      have t := t_text a2.data.toList a3.data.toList (by simp; omega)
      rw [ed, t.1, t.2.1, t.2.2, ev_zero, bs_of, bs_of] at this
      exact this
    have HN := Lib.hid h1
    have HM := Lib.hid h2
    have HPN := Lib.hid PN
    have HPM := Lib.hid PM
    have HPT := Lib.hid PT
    have HG1 := Lib.hid G1
    have HG2 := Lib.hid G2
    have i1 : ¬ (n : Int) < 0 := by omega
    have i2 : ¬ (m : Int) < 0 := by omega
    have i3 : ¬ (1099511627776 : Int) < n := by omega
    have i4 : ¬ (1099511627776 : Int) < m := by omega
    have i5 : ¬ (300 : Int) < a2.size := by omega
    have i6 : ¬ (300 : Int) < a3.size := by omega
    have i7 : ¬ 9223372036854775807 < (num n).length + a3.size := by have := num_len n; omega
    have i8 : ¬ 9223372036854775807 < (ptL a2.data.toList).length + a3.size := by omega
    have HK := Lib.hid (show n ≤ 1099511627776 ∧ m ≤ 1099511627776 from ⟨hn, hm⟩)
    clear PN PM PT G1 G2 h1 h2 e1 e2 e3 ha ha' hb hb' hn hm h3 h4 hpl
    by_cases hnm : (num n).length ≤ (num m).length
    all_goals
      have hnmI : ((num n).length : Int) ≤ (num m).length ∨ ((num m).length : Int) < (num n).length := by omega
      go_enter Tryd.func3, Tryd.ntmps3
      go_wp2_with (go_at_call 16; refine NB.mono ?_; rintro e w0 ⟨rfl, b0⟩)
      refine (HPN.out _ (HM.out.below b0)).mono ?_
      rintro e w1 ⟨rfl, b1⟩
      have b01 := below_trans' b0 b1
      clear b0 b1
      go_wp2_with fail
      refine (HPM.out _ (HM.out.below b01)).mono ?_
      rintro e w2 ⟨rfl, b2⟩
      have b02 := below_trans' b01 b2
      clear b01 b2
      go_wp2_with fail
      refine (HPT.out _ (HM.out.below b02)).mono ?_
      rintro e w3 ⟨rfl, b3⟩
      have b03 := below_trans' b02 b3
      clear b02 b3
      go_wp2_with fail
      refine (HG1.out _ (HN.out.below b03) (HM.out.below b03)).mono ?_
      rintro e w4 ⟨rfl, b4⟩
      have b04 := below_trans' b03 (b4.below _)
      clear b03 b4
      go_wp2_with fail
      refine (HG2.out _ (HN.out.below b04) (HM.out.below b04)).mono ?_
      rintro e w5 ⟨rfl, b5⟩
      have b05 := below_trans' b04 (b5.below _)
      clear b04 b5
      go_wp2_with fail
      go_ret
    · refine ⟨?_, b05⟩
      exact congrArg (fun b => Ending.returned (.bool b)) (begins_is n m HK.out.1 HK.out.2 hnm)
    · have hne : ¬ n = m := by rintro rfl; omega
      have hb : (!((n : Int) == (m : Int))) = true := by simp; omega
      exact ⟨congrArg (fun b => Ending.returned (.bool b)) hb, b05⟩
  · have hno : a0 < 0 ∨ ¬ a0 < 0 ∧ (1099511627776 < a0 ∨ ¬ 1099511627776 < a0 ∧ (a1 < 0 ∨ ¬ a1 < 0 ∧ (1099511627776 < a1 ∨ ¬ 1099511627776 < a1 ∧ ((300 : Int) < a2.size ∨ ¬ (300 : Int) < a2.size ∧ (300 : Int) < a3.size)))) := by omega
    clear hyes
    rcases hno with h | ⟨k1, h | ⟨k2, h | ⟨k3, h | ⟨k4, h | ⟨k5, h⟩⟩⟩⟩⟩
    all_goals
      go_enter Tryd.func3, Tryd.ntmps3
      go_wp2_with (go_at_call 16; refine NB.mono ?_; rintro e w0 ⟨rfl, b0⟩)
      go_ret
      exact ⟨rfl, b0⟩
end Go.Proofs.YtmpikgkaoafclaaDoor
