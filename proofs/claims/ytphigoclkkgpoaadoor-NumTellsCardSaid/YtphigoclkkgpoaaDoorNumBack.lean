/- NumBack: a number, and a text, are read as they were written. -/
import Derived.Test.YtphigoclkkgpoaaDoorNum
import Derived.Test.YtphigoclkkgpoaaDoorLaid
namespace Go.Proofs.YtphigoclkkgpoaaDoor
open Go.RowKit

theorem bs_mk (l : List UInt8) : bs l = ⟨l.toArray⟩ := by unfold bs; rfl
theorem put300 : putC 300 = 0 ∧ bs (putL 300) = ⟨#[172, 2]⟩ := ⟨by decide +kernel, by rw [bs_mk]; decide +kernel⟩
theorem get300 : gN [172, 2, 120, 121] = 300 ∧ bs (gR [172, 2, 120, 121]) = ⟨#[120, 121]⟩ ∧ gC [172, 2, 120, 121] = 0 := ⟨by decide +kernel, by rw [bs_mk]; decide +kernel, by decide +kernel⟩

theorem begins_is (n m : Nat) (hn : n ≤ 1099511627776) (hm : m ≤ 1099511627776) (h : (num n).length ≤ (num m).length) :
    ((((bs (num m)).extract 0 (num n).length).toList == (bs (num n)).toList) == ((n : Int) == (m : Int))) = true := by
  rw [bs_take]
  simp only [ByteArray.toList_eq, bs_list]
  by_cases e : n = m
  · subst e; simp
  · have h1 : ((num m).take (num n).length == num n) = false := by
      rw [beq_eq_false_iff_ne]
      intro h2
      refine e (num_begins n m ((num m).drop (num n).length) hn hm ?_)
      conv => rhs; lhs; rw [← h2]
      exact (List.take_append_drop _ _).symm
    have h2 : ((n : Int) == (m : Int)) = false := by simp; omega
    rw [h1, h2]; rfl

set_option maxRecDepth 100000 in
set_option maxHeartbeats 1600000 in
theorem numbered_ok (E : Nat → Addr) (w : World) (h1 : Has E w 1) (h2 : Has E w 2) :
    Calls Tryd.prog 16 #[] w fun e w' => e = .returned (.bool true) ∧ Below w.heap.size w w' := by
  have P := put_any E 300 w h2
  rw [put300.1, put300.2, ev_zero] at P
  have G : ∀ w', Has E w' 1 → Has E w' 2 → Calls Tryd.prog 22 #[.string ⟨#[172, 2, 120, 121]⟩] w' fun e w'' => e = .returned (.tuple #[.int .i64 300, .string ⟨#[120, 121]⟩, .nilIface]) ∧ Drew w' w'' := by
    intro w' h1 h2
    have G := get_any E ⟨#[172, 2, 120, 121]⟩ w' (by decide) h1 h2
    simp only [] at G
    rw [get300.1, get300.2.1, get300.2.2, ev_zero] at G
    exact G
  have GG := Lib.hid G
  have H1 := Lib.hid h1
  have H2 := Lib.hid h2
  clear G h1 h2
  go_enter Tryd.func16, Tryd.ntmps16
  go_wp2_with (first | (go_at_call 17; refine P.mono ?_; rintro e w' ⟨rfl, hb⟩) | (go_at_call 22; refine (GG.out _ (H1.out.below hb) (H2.out.below hb)).mono ?_; rintro e w' ⟨rfl, hb'⟩))
  go_ret
  exact ⟨rfl, below_trans' hb (hb'.below _)⟩

end Go.Proofs.YtphigoclkkgpoaaDoor
