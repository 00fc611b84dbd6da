/- Contract of patch.Whole. -/
import Derived.Test.YtphigoclkkgpoaaDoorWholeLaws
namespace Go.Proofs.YtphigoclkkgpoaaDoor
open Go.RowKit
set_option linter.unusedVariables false
set_option maxRecDepth 100000 in
set_option maxHeartbeats 1600000 in
theorem whole_any (E : Nat → Addr) (old : List UInt8) (size : Int) (s0 : Option Addr) (n0 c0 : Nat) (l : List POp) (n c : Int) (w : World) (hl : SliceIs w (.slice s0 n0 c0) 4 (ocells l))
    (h2 : Has E w 2) (h3 : Has E w 3) (h4 : Has E w 4) (h6 : Has E w 6) (h8 : Has E w 8) (h10 : Has E w 10) :
    Calls Tryd.prog 14 #[.string (bs old), .int .i64 size, .slice s0 n0 c0, .int .i64 n, .int .u32 c] w fun e w' => ∃ v, e = .returned (.tuple #[.string (bs (whL old size l n c)), v]) ∧ FErr E w' v (whC old size l n c).1 (whC old size l n c).2 ∧ Below w.heap.size w w' := by
  have AP := Lib.hid (apply_any E old size s0 n0 c0 l w hl h2 h3 h4 h6 h8)
  have H10 := Lib.hid h10
  clear hl h2 h3 h4 h6 h8 h10
  by_cases hok : (appl old size l).1.1 = 0
  · have hlen := (appl_zero hok).2.2.2.2
    have hsnd := (appl_zero hok).2.2.1
    have hl4 : (appl old size l).2.length ≤ 4000 := by rw [hsnd]; exact hlen
    have SU := Lib.hid (fun w' => sum_any (bs (appl old size l).2) w' (by rw [bs_size]; omega))
    rw [bs_list] at SU
    have YES := Lib.hid (wh_fine (n := n) (c := c) hok)
    have NO := Lib.hid (wh_sum (n := n) (c := c) hok)
    have HOK := Lib.hid hok
    clear hlen hsnd hok
    generalize (appl old size l).2 = out at *
    generalize (appl old size l).1 = p at *
    by_cases hn : (out.length : Int) = n
    · by_cases hc : (csum out : Int) = c
      · have Z := Lib.hid (YES.out ⟨hn, hc⟩)
        subst hn
        subst hc
        clear YES NO
        go_enter Tryd.func14, Tryd.ntmps14
        go_wp2_with fail
        refine AP.out.mono ?_
        rintro e w1 ⟨v, rfl, fe, b1⟩
        rw [HOK.out] at fe
        rw [fe.zero]
        clear fe
        go_wp2_with (go_at_call 13; refine (SU.out _).mono ?_; rintro e w2 ⟨rfl, rfl⟩)
        go_ret2
        exact ⟨.nilIface, ret2 (by rw [Z.out.2]; rfl) rfl, by rw [Z.out.1]; exact FErr.nil E _, b1⟩
      · have Z := Lib.hid (NO.out (fun h => hc h.2))
        subst hn
        have hcb : ((csum out : Int) == c) = false := by rw [beq_eq_false_iff_ne]; exact hc
        clear YES NO hc
        go_enter Tryd.func14, Tryd.ntmps14
        go_wp2_with fail
        refine AP.out.mono ?_
        rintro e w1 ⟨v, rfl, fe, b1⟩
        rw [HOK.out] at fe
        rw [fe.zero]
        clear fe
        have c10 : w1.cell? ⟨1, 0, none⟩ = some (errv (E 10)) := H10.out.below b1
        unfold errv at c10
        go_wp2_with (go_at_call 13; refine (SU.out _).mono ?_; rintro e w2 ⟨rfl, rfl⟩)
        go_ret2
        exact ⟨.iface 165 (.pointer (some (E 10))), ret2 (by rw [Z.out.2, bs_nil]; rfl) rfl, by rw [Z.out.1]; have h := FErr.ev E w1 10; rw [ev_pos E (by decide)] at h; exact h, b1⟩
    · have Z := Lib.hid (NO.out (fun h => hn h.1))
      have hcb : ((out.length : Int) == n) = false := by rw [beq_eq_false_iff_ne]; exact hn
      clear YES NO hn
      go_enter Tryd.func14, Tryd.ntmps14
      go_wp2_with fail
      refine AP.out.mono ?_
      rintro e w1 ⟨v, rfl, fe, b1⟩
      rw [HOK.out] at fe
      rw [fe.zero]
      clear fe
      have c10 : w1.cell? ⟨1, 0, none⟩ = some (errv (E 10)) := H10.out.below b1
      unfold errv at c10
      go_wp2_with (go_at_call 13; refine (SU.out _).mono ?_; rintro e w2 ⟨rfl, rfl⟩)
      go_ret2
      exact ⟨.iface 165 (.pointer (some (E 10))), ret2 (by rw [Z.out.2, bs_nil]; rfl) rfl, by rw [Z.out.1]; have h := FErr.ev E w1 10; rw [ev_pos E (by decide)] at h; exact h, b1⟩
  · have Z := Lib.hid (wh_bad (n := n) (c := c) hok)
    have HOK := Lib.hid hok
    rw [Z.out.1, Z.out.2]
    clear hok
    go_enter Tryd.func14, Tryd.ntmps14
    go_wp2_with fail
    refine AP.out.mono ?_
    rintro e w1 ⟨v, rfl, fe, b1⟩
    obtain ⟨t, p, hv⟩ := fe.some HOK.out
    have FE := Lib.hid fe
    clear fe
    rw [hv] at FE ⊢
    go_wp2_with fail
    go_ret2
    exact ⟨.iface t (.pointer (some p)), ret2 (by rw [bs_nil]; rfl) rfl, FE.out, b1⟩
end Go.Proofs.YtphigoclkkgpoaaDoor
