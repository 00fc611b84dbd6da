/- NumTells: numbers and texts, written and read, are the document's. -/
import Derived.Test.YtphigoclkkgpoaaDoorRefTextOf
import Derived.Test.YtphigoclkkgpoaaDoorCoded
import Derived.Test.YtphigoclkkgpoaaDoorNumBack
namespace Go.Proofs.YtphigoclkkgpoaaDoor
open Go.RowKit
set_option linter.unusedVariables false

theorem coded_ev (E : Nat → Addr) (c : Nat) (w : World) (hE : Errs E w) (hc : c ≤ 12) : Calls Tryd.prog 18 #[ev E c, .int .i64 c] w fun e w' => e = .returned (.bool true) ∧ Below w.heap.size w w' := by
  have h := coded_any E _ c (-1) c w (FErr.ev E w c) hE hc
  rw [show (decide ((c : Int) = (c : Int)) && decide ((-1 : Int) = -1)) = true by simp] at h
  exact h

set_option maxRecDepth 100000 in
set_option maxHeartbeats 6400000 in
theorem numTells_walk (E : Nat → Addr) (a0 : Int) (a1 : ByteArray) (w : World) (_ : (Lit.int .i64 a0).wf = true) (hs : a1.size ≤ maxLen) (hh : Hand w) (h1 : ∀ c ∈ [1, 2, 3, 4, 5, 6, 7, 8, 9, 10, 11, 12], Has E w c ∧ Sent w (E c)) (h2 : ∀ c ∈ [1, 2, 3, 4, 5, 6, 7, 8, 9, 10, 11, 12], ∀ c' ∈ [1, 2, 3, 4, 5, 6, 7, 8, 9, 10, 11, 12], c ≠ c' → E c ≠ E c') :
    Calls Tryd.prog 4 #[.int .i64 a0, .string a1] w fun e w' => e = .returned (.bool true) ∧ Below w.heap.size w w' := by
  have hE := Errs.of hh h1 h2
  have HE := Lib.hid hE
  have HT := Lib.hid (hE.has 1 (by omega) (by omega))
  have HB := Lib.hid (hE.has 2 (by omega) (by omega))
  have NB := Lib.hid (numbered_ok E w HT.out HB.out)
  unfold maxLen at hs
  clear hh h1 h2 hE
  by_cases hsz : a1.size ≤ 300 ∨ a1.size = 20001
  · have hs1 : a1.size ≤ 20001 := by omega
    clear hs
    have hsl : a1.data.toList.length = a1.size := by simp
    have hcut : a1.extract (nAt a1.size 0 a1.data.toList) a1.size = bs (a1.data.toList.drop (nAt a1.size 0 a1.data.toList)) := bs_drop _ _
    have hnat := fun (h : gC a1.data.toList = 0) => nAt_drop (s := a1.data.toList) (at' := 0) (by rw [List.drop_zero]; exact h)
    rw [hsl, List.drop_zero] at hnat
    have htat : tC a1.data.toList = 0 → tAt a1.size 0 a1.data.toList ≤ a1.size ∧ a1.extract (tAt a1.size 0 a1.data.toList) a1.size = bs (tR a1.data.toList) := by
      intro h0
      by_cases g0 : gC a1.data.toList = 0
      · have e := gR_drop g0
        by_cases g1 : 20000 < gN a1.data.toList
        · have := (t_err2 g0 g1).1; omega
        · by_cases g2 : (gR a1.data.toList).length < gN a1.data.toList
          · have := (t_err3 g0 g1 g2).1; omega
          · have hr := (t_fine g0 g1 g2).2.2
            have hk : tAt a1.size 0 a1.data.toList = a1.size - (tR a1.data.toList).length := by unfold tAt; rw [if_pos h0]
            rw [hk]
            refine ⟨by omega, ?_⟩
            rw [bs_drop]
            congr 1
            rw [hr]
            conv => rhs; rw [e.1]
            rw [List.drop_drop, List.length_drop, hsl]
            congr 1
            omega
      · have := (t_err1 g0).2.2; exact absurd h0 this
    have GETP := fun (w' : World) => get_any E a1 w' (by omega)
    have GTP := fun (w' : World) => gtext_any E a1 w' (by omega)
    have PTX := fun (w' : World) => ptext_any E a1 w' (by omega)
    have NOP := fun (w' : World) => rnumof_any a1 0 w' (by omega) (by omega)
    have TOP := fun (w' : World) => rtextof_any a1 0 w' (by omega) (by omega)
    rw [List.drop_zero] at NOP TOP
    have hgc := gC_cases a1.data.toList
    have htc := tC_cases a1.data.toList
    have CNT := fun (w' : World) => rcounted_any a1 w' (by omega)
    have hptc : a1.size ≤ 300 → ptC a1.data.toList = 0 ∧ ptL a1.data.toList = num a1.size ++ a1.data.toList := fun h => by
      have := ptC_yes (l := a1.data.toList) (by rw [hsl]; omega)
      rw [hsl] at this; exact this
    have hptn : a1.size = 20001 → ptC a1.data.toList = 2 ∧ ptL a1.data.toList = [] := fun h => ptC_no (by rw [hsl]; omega)
    clear hsl
    generalize a1.data.toList = L at *
    have KN := Lib.hid hnat
    have KT := Lib.hid htat
    have KG := Lib.hid GETP
    have KGT := Lib.hid GTP
    have KPT := Lib.hid PTX
    have KNO := Lib.hid NOP
    have KTO := Lib.hid TOP
    have KGC := Lib.hid hgc
    have KTC := Lib.hid htc
    have KCN := Lib.hid CNT
    have KP1 := Lib.hid hptc
    have KP2 := Lib.hid hptn
    have KCUT := Lib.hid hcut
    clear hnat htat GETP GTP PTX NOP TOP hgc htc CNT hptc hptn hcut
    have hgb : gC L ≤ 2 := by have := KGC.out; omega
    have htb : tC L ≤ 2 := by have := KTC.out; omega
    have hgn : gN L ≤ 1099511627776 := gN_le L
    rcases (show (0 ≤ a0 ∧ a0 ≤ 1099511627776) ∨ a0 < 0 ∨ 1099511627776 < a0 by omega) with hn | hn | hn
    · obtain ⟨m, rfl⟩ : ∃ m : Nat, a0 = m := ⟨a0.toNat, by omega⟩
      have hp1 : ¬ (m : Int) < 0 := by omega
      have hp2 : ¬ (1099511627776 : Int) < m := by omega
      have hp3 : m ≤ 1099511627776 := by omega
      rcases hsz with hsz | hsz
      · have hz1 : ¬ (300 : Int) < a1.size := by omega
        have hz2 : ¬ (20000 : Int) < a1.size := by omega
        have KP := Lib.hid (KP1.out hsz)
        by_cases hg : gC L = 0
        · obtain ⟨n1, n2, n3⟩ := KN.out hg
          have g1 : ((gC L : Int) == 0) = true := by rw [beq_iff_eq]; omega
          have g2 : ¬ (0 : Int) < gC L := by omega
          have g3 : a1.extract (nAt a1.size 0 L) a1.size = bs (gR L) := by rw [KCUT.out, n1]
          have gp := Lib.hid KG.out
          clear n1 n3 hg
          by_cases ht : tC L = 0
          · obtain ⟨m2, t3⟩ := KT.out ht
            have t1 : ((tC L : Int) == 0) = true := by rw [beq_iff_eq]; omega
            have t2 : ¬ (0 : Int) < tC L := by omega
            have tp := Lib.hid KGT.out
            clear ht
            go_enter Tryd.func4, Tryd.ntmps4
            go_wp2_with fail
            refine NB.out.mono ?_
            rintro e w0 ⟨rfl, b0⟩
            go_wp2_with fail
            refine (put_yes m _ hp3).mono ?_
            rintro e w1 ⟨rfl, b1⟩
            have b2 := below_trans' b0 b1
            clear b0 b1
            go_wp2_with fail
            refine (rnumtext_any m _ hp3).mono ?_
            rintro e w2 ⟨rfl, b1⟩
            have b3 := below_trans' b2 b1
            clear b2 b1
            go_wp2_with fail
            have PT := KPT.out w2 (HB.out.below b3)
            rw [KP.out.1, KP.out.2, ev_zero] at PT
            refine PT.mono ?_
            rintro e w3 ⟨rfl, b1⟩
            have b4 := below_trans' b3 b1
            clear b3 b1 PT
            go_wp2_with fail
            refine (KCN.out w3).mono ?_
            rintro e w4 ⟨rfl, b1⟩
            have b5 := below_trans' b4 b1
            clear b4 b1
            go_wp2_with fail
            refine (gp.out _ (HT.out.below b5) (HB.out.below b5)).mono ?_
            rintro e w5 ⟨rfl, d5⟩
            have b6 := below_trans' b5 (d5.below _)
            clear b5 d5
            go_wp2_with fail
            refine (KNO.out _).mono ?_
            rintro e w6 ⟨rfl, rfl⟩
            go_wp2_with fail
            refine (coded_ev E (gC L) _ (HE.out.below b6) (by omega)).mono ?_
            rintro e w7 ⟨rfl, b1⟩
            have b7 := below_trans' b6 b1
            clear b6 b1
            go_wp2_with fail
            refine (tp.out _ (HT.out.below b7) (HB.out.below b7)).mono ?_
            rintro e w8 ⟨rfl, d8⟩
            have b8 := below_trans' b7 (d8.below _)
            clear b7 d8
            go_wp2_with fail
            refine (KTO.out _).mono ?_
            rintro e w9 ⟨rfl, rfl⟩
            go_wp2_with fail
            refine (coded_ev E (tC L) _ (HE.out.below b8) (by omega)).mono ?_
            rintro e wx ⟨rfl, b1⟩
            have b9 := below_trans' b8 b1
            clear b8 b1
            go_wp2_with fail
            go_ret
            exact ⟨rfl, b9⟩
          · have t0 := KTC.out.resolve_left ht
            have t1 : ((tC L : Int) == 0) = false := by rw [beq_eq_false_iff_ne]; omega
            have t2 : (0 : Int) < tC L := by omega
            have t3 : (0 : Int) = 0 := rfl
            have m2 : True := trivial
            have tp := KGT.out
            rw [t0.2.2, bs_nil] at tp
            have tp := Lib.hid tp
            clear t0 ht
            go_enter Tryd.func4, Tryd.ntmps4
            go_wp2_with fail
            refine NB.out.mono ?_
            rintro e w0 ⟨rfl, b0⟩
            go_wp2_with fail
            refine (put_yes m _ hp3).mono ?_
            rintro e w1 ⟨rfl, b1⟩
            have b2 := below_trans' b0 b1
            clear b0 b1
            go_wp2_with fail
            refine (rnumtext_any m _ hp3).mono ?_
            rintro e w2 ⟨rfl, b1⟩
            have b3 := below_trans' b2 b1
            clear b2 b1
            go_wp2_with fail
            have PT := KPT.out w2 (HB.out.below b3)
            rw [KP.out.1, KP.out.2, ev_zero] at PT
            refine PT.mono ?_
            rintro e w3 ⟨rfl, b1⟩
            have b4 := below_trans' b3 b1
            clear b3 b1 PT
            go_wp2_with fail
            refine (KCN.out w3).mono ?_
            rintro e w4 ⟨rfl, b1⟩
            have b5 := below_trans' b4 b1
            clear b4 b1
            go_wp2_with fail
            refine (gp.out _ (HT.out.below b5) (HB.out.below b5)).mono ?_
            rintro e w5 ⟨rfl, d5⟩
            have b6 := below_trans' b5 (d5.below _)
            clear b5 d5
            go_wp2_with fail
            refine (KNO.out _).mono ?_
            rintro e w6 ⟨rfl, rfl⟩
            go_wp2_with fail
            refine (coded_ev E (gC L) _ (HE.out.below b6) (by omega)).mono ?_
            rintro e w7 ⟨rfl, b1⟩
            have b7 := below_trans' b6 b1
            clear b6 b1
            go_wp2_with fail
            refine (tp.out _ (HT.out.below b7) (HB.out.below b7)).mono ?_
            rintro e w8 ⟨rfl, d8⟩
            have b8 := below_trans' b7 (d8.below _)
            clear b7 d8
            go_wp2_with fail
            refine (KTO.out _).mono ?_
            rintro e w9 ⟨rfl, rfl⟩
            go_wp2_with fail
            refine (coded_ev E (tC L) _ (HE.out.below b8) (by omega)).mono ?_
            rintro e wx ⟨rfl, b1⟩
            have b9 := below_trans' b8 b1
            clear b8 b1
            go_wp2_with fail
            go_ret
            exact ⟨rfl, b9⟩
        · have g0 := KGC.out.resolve_left hg
          have g1 : ((gC L : Int) == 0) = false := by rw [beq_eq_false_iff_ne]; omega
          have g2 : (0 : Int) < gC L := by omega
          have g3 : (0 : Int) = 0 := rfl
          have n2 : True := trivial
          have gp := KG.out
          rw [g0.2.2, bs_nil] at gp
          have gp := Lib.hid gp
          clear g0 hg
          by_cases ht : tC L = 0
          · obtain ⟨m2, t3⟩ := KT.out ht
            have t1 : ((tC L : Int) == 0) = true := by rw [beq_iff_eq]; omega
            have t2 : ¬ (0 : Int) < tC L := by omega
            have tp := Lib.hid KGT.out
            clear ht
            go_enter Tryd.func4, Tryd.ntmps4
            go_wp2_with fail
            refine NB.out.mono ?_
            rintro e w0 ⟨rfl, b0⟩
            go_wp2_with fail
            refine (put_yes m _ hp3).mono ?_
            rintro e w1 ⟨rfl, b1⟩
            have b2 := below_trans' b0 b1
            clear b0 b1
            go_wp2_with fail
            refine (rnumtext_any m _ hp3).mono ?_
            rintro e w2 ⟨rfl, b1⟩
            have b3 := below_trans' b2 b1
            clear b2 b1
            go_wp2_with fail
            have PT := KPT.out w2 (HB.out.below b3)
            rw [KP.out.1, KP.out.2, ev_zero] at PT
            refine PT.mono ?_
            rintro e w3 ⟨rfl, b1⟩
            have b4 := below_trans' b3 b1
            clear b3 b1 PT
            go_wp2_with fail
            refine (KCN.out w3).mono ?_
            rintro e w4 ⟨rfl, b1⟩
            have b5 := below_trans' b4 b1
            clear b4 b1
            go_wp2_with fail
            refine (gp.out _ (HT.out.below b5) (HB.out.below b5)).mono ?_
            rintro e w5 ⟨rfl, d5⟩
            have b6 := below_trans' b5 (d5.below _)
            clear b5 d5
            go_wp2_with fail
            refine (KNO.out _).mono ?_
            rintro e w6 ⟨rfl, rfl⟩
            go_wp2_with fail
            refine (coded_ev E (gC L) _ (HE.out.below b6) (by omega)).mono ?_
            rintro e w7 ⟨rfl, b1⟩
            have b7 := below_trans' b6 b1
            clear b6 b1
            go_wp2_with fail
            refine (tp.out _ (HT.out.below b7) (HB.out.below b7)).mono ?_
            rintro e w8 ⟨rfl, d8⟩
            have b8 := below_trans' b7 (d8.below _)
            clear b7 d8
            go_wp2_with fail
            refine (KTO.out _).mono ?_
            rintro e w9 ⟨rfl, rfl⟩
            go_wp2_with fail
            refine (coded_ev E (tC L) _ (HE.out.below b8) (by omega)).mono ?_
            rintro e wx ⟨rfl, b1⟩
            have b9 := below_trans' b8 b1
            clear b8 b1
            go_wp2_with fail
            go_ret
            exact ⟨rfl, b9⟩
          · have t0 := KTC.out.resolve_left ht
            have t1 : ((tC L : Int) == 0) = false := by rw [beq_eq_false_iff_ne]; omega
            have t2 : (0 : Int) < tC L := by omega
            have t3 : (0 : Int) = 0 := rfl
            have m2 : True := trivial
            have tp := KGT.out
            rw [t0.2.2, bs_nil] at tp
            have tp := Lib.hid tp
            clear t0 ht
            go_enter Tryd.func4, Tryd.ntmps4
            go_wp2_with fail
            refine NB.out.mono ?_
            rintro e w0 ⟨rfl, b0⟩
            go_wp2_with fail
            refine (put_yes m _ hp3).mono ?_
            rintro e w1 ⟨rfl, b1⟩
            have b2 := below_trans' b0 b1
            clear b0 b1
            go_wp2_with fail
            refine (rnumtext_any m _ hp3).mono ?_
            rintro e w2 ⟨rfl, b1⟩
            have b3 := below_trans' b2 b1
            clear b2 b1
            go_wp2_with fail
            have PT := KPT.out w2 (HB.out.below b3)
            rw [KP.out.1, KP.out.2, ev_zero] at PT
            refine PT.mono ?_
            rintro e w3 ⟨rfl, b1⟩
            have b4 := below_trans' b3 b1
            clear b3 b1 PT
            go_wp2_with fail
            refine (KCN.out w3).mono ?_
            rintro e w4 ⟨rfl, b1⟩
            have b5 := below_trans' b4 b1
            clear b4 b1
            go_wp2_with fail
            refine (gp.out _ (HT.out.below b5) (HB.out.below b5)).mono ?_
            rintro e w5 ⟨rfl, d5⟩
            have b6 := below_trans' b5 (d5.below _)
            clear b5 d5
            go_wp2_with fail
            refine (KNO.out _).mono ?_
            rintro e w6 ⟨rfl, rfl⟩
            go_wp2_with fail
            refine (coded_ev E (gC L) _ (HE.out.below b6) (by omega)).mono ?_
            rintro e w7 ⟨rfl, b1⟩
            have b7 := below_trans' b6 b1
            clear b6 b1
            go_wp2_with fail
            refine (tp.out _ (HT.out.below b7) (HB.out.below b7)).mono ?_
            rintro e w8 ⟨rfl, d8⟩
            have b8 := below_trans' b7 (d8.below _)
            clear b7 d8
            go_wp2_with fail
            refine (KTO.out _).mono ?_
            rintro e w9 ⟨rfl, rfl⟩
            go_wp2_with fail
            refine (coded_ev E (tC L) _ (HE.out.below b8) (by omega)).mono ?_
            rintro e wx ⟨rfl, b1⟩
            have b9 := below_trans' b8 b1
            clear b8 b1
            go_wp2_with fail
            go_ret
            exact ⟨rfl, b9⟩
      · have hz1 : (300 : Int) < a1.size := by omega
        have hz2 : (20000 : Int) < a1.size := by omega
        have hz3 : ((a1.size : Int) == 20001) = true := by rw [beq_iff_eq]; omega
        have KP := Lib.hid (KP2.out hsz)
        clear hsz
        by_cases hg : gC L = 0
        · obtain ⟨n1, n2, n3⟩ := KN.out hg
          have g1 : ((gC L : Int) == 0) = true := by rw [beq_iff_eq]; omega
          have g2 : ¬ (0 : Int) < gC L := by omega
          have g3 : a1.extract (nAt a1.size 0 L) a1.size = bs (gR L) := by rw [KCUT.out, n1]
          have gp := Lib.hid KG.out
          clear n1 n3 hg
          by_cases ht : tC L = 0
          · obtain ⟨m2, t3⟩ := KT.out ht
            have t1 : ((tC L : Int) == 0) = true := by rw [beq_iff_eq]; omega
            have t2 : ¬ (0 : Int) < tC L := by omega
            have tp := Lib.hid KGT.out
            clear ht
            go_enter Tryd.func4, Tryd.ntmps4
            go_wp2_with fail
            refine NB.out.mono ?_
            rintro e w0 ⟨rfl, b0⟩
            go_wp2_with fail
            refine (put_yes m _ hp3).mono ?_
            rintro e w1 ⟨rfl, b1⟩
            have b2 := below_trans' b0 b1
            clear b0 b1
            go_wp2_with fail
            refine (rnumtext_any m _ hp3).mono ?_
            rintro e w2 ⟨rfl, b1⟩
            have b3 := below_trans' b2 b1
            clear b2 b1
            go_wp2_with fail
            have PT := KPT.out w2 (HB.out.below b3)
            rw [KP.out.1, KP.out.2, bs_nil] at PT
            refine PT.mono ?_
            rintro e w3 ⟨rfl, b1⟩
            have b4 := below_trans' b3 b1
            clear b3 b1 PT
            go_wp2_with fail
            refine (coded_ev E 2 _ (HE.out.below b4) (by omega)).mono ?_
            rintro e w4 ⟨rfl, b1⟩
            have b5 := below_trans' b4 b1
            clear b4 b1
            go_wp2_with fail
            refine (gp.out _ (HT.out.below b5) (HB.out.below b5)).mono ?_
            rintro e w5 ⟨rfl, d5⟩
            have b6 := below_trans' b5 (d5.below _)
            clear b5 d5
            go_wp2_with fail
            refine (KNO.out _).mono ?_
            rintro e w6 ⟨rfl, rfl⟩
            go_wp2_with fail
            refine (coded_ev E (gC L) _ (HE.out.below b6) (by omega)).mono ?_
            rintro e w7 ⟨rfl, b1⟩
            have b7 := below_trans' b6 b1
            clear b6 b1
            go_wp2_with fail
            refine (tp.out _ (HT.out.below b7) (HB.out.below b7)).mono ?_
            rintro e w8 ⟨rfl, d8⟩
            have b8 := below_trans' b7 (d8.below _)
            clear b7 d8
            go_wp2_with fail
            refine (KTO.out _).mono ?_
            rintro e w9 ⟨rfl, rfl⟩
            go_wp2_with fail
            refine (coded_ev E (tC L) _ (HE.out.below b8) (by omega)).mono ?_
            rintro e wx ⟨rfl, b1⟩
            have b9 := below_trans' b8 b1
            clear b8 b1
            go_wp2_with fail
            go_ret
            exact ⟨rfl, b9⟩
          · have t0 := KTC.out.resolve_left ht
            have t1 : ((tC L : Int) == 0) = false := by rw [beq_eq_false_iff_ne]; omega
            have t2 : (0 : Int) < tC L := by omega
            have t3 : (0 : Int) = 0 := rfl
            have m2 : True := trivial
            have tp := KGT.out
            rw [t0.2.2, bs_nil] at tp
            have tp := Lib.hid tp
            clear t0 ht
            go_enter Tryd.func4, Tryd.ntmps4
            go_wp2_with fail
            refine NB.out.mono ?_
            rintro e w0 ⟨rfl, b0⟩
            go_wp2_with fail
            refine (put_yes m _ hp3).mono ?_
            rintro e w1 ⟨rfl, b1⟩
            have b2 := below_trans' b0 b1
            clear b0 b1
            go_wp2_with fail
            refine (rnumtext_any m _ hp3).mono ?_
            rintro e w2 ⟨rfl, b1⟩
            have b3 := below_trans' b2 b1
            clear b2 b1
            go_wp2_with fail
            have PT := KPT.out w2 (HB.out.below b3)
            rw [KP.out.1, KP.out.2, bs_nil] at PT
            refine PT.mono ?_
            rintro e w3 ⟨rfl, b1⟩
            have b4 := below_trans' b3 b1
            clear b3 b1 PT
            go_wp2_with fail
            refine (coded_ev E 2 _ (HE.out.below b4) (by omega)).mono ?_
            rintro e w4 ⟨rfl, b1⟩
            have b5 := below_trans' b4 b1
            clear b4 b1
            go_wp2_with fail
            refine (gp.out _ (HT.out.below b5) (HB.out.below b5)).mono ?_
            rintro e w5 ⟨rfl, d5⟩
            have b6 := below_trans' b5 (d5.below _)
            clear b5 d5
            go_wp2_with fail
            refine (KNO.out _).mono ?_
            rintro e w6 ⟨rfl, rfl⟩
            go_wp2_with fail
            refine (coded_ev E (gC L) _ (HE.out.below b6) (by omega)).mono ?_
            rintro e w7 ⟨rfl, b1⟩
            have b7 := below_trans' b6 b1
            clear b6 b1
            go_wp2_with fail
            refine (tp.out _ (HT.out.below b7) (HB.out.below b7)).mono ?_
            rintro e w8 ⟨rfl, d8⟩
            have b8 := below_trans' b7 (d8.below _)
            clear b7 d8
            go_wp2_with fail
            refine (KTO.out _).mono ?_
            rintro e w9 ⟨rfl, rfl⟩
            go_wp2_with fail
            refine (coded_ev E (tC L) _ (HE.out.below b8) (by omega)).mono ?_
            rintro e wx ⟨rfl, b1⟩
            have b9 := below_trans' b8 b1
            clear b8 b1
            go_wp2_with fail
            go_ret
            exact ⟨rfl, b9⟩
        · have g0 := KGC.out.resolve_left hg
          have g1 : ((gC L : Int) == 0) = false := by rw [beq_eq_false_iff_ne]; omega
          have g2 : (0 : Int) < gC L := by omega
          have g3 : (0 : Int) = 0 := rfl
          have n2 : True := trivial
          have gp := KG.out
          rw [g0.2.2, bs_nil] at gp
          have gp := Lib.hid gp
          clear g0 hg
          by_cases ht : tC L = 0
          · obtain ⟨m2, t3⟩ := KT.out ht
            have t1 : ((tC L : Int) == 0) = true := by rw [beq_iff_eq]; omega
            have t2 : ¬ (0 : Int) < tC L := by omega
            have tp := Lib.hid KGT.out
            clear ht
            go_enter Tryd.func4, Tryd.ntmps4
            go_wp2_with fail
            refine NB.out.mono ?_
            rintro e w0 ⟨rfl, b0⟩
            go_wp2_with fail
            refine (put_yes m _ hp3).mono ?_
            rintro e w1 ⟨rfl, b1⟩
            have b2 := below_trans' b0 b1
            clear b0 b1
            go_wp2_with fail
            refine (rnumtext_any m _ hp3).mono ?_
            rintro e w2 ⟨rfl, b1⟩
            have b3 := below_trans' b2 b1
            clear b2 b1
            go_wp2_with fail
            have PT := KPT.out w2 (HB.out.below b3)
            rw [KP.out.1, KP.out.2, bs_nil] at PT
            refine PT.mono ?_
            rintro e w3 ⟨rfl, b1⟩
            have b4 := below_trans' b3 b1
            clear b3 b1 PT
            go_wp2_with fail
            refine (coded_ev E 2 _ (HE.out.below b4) (by omega)).mono ?_
            rintro e w4 ⟨rfl, b1⟩
            have b5 := below_trans' b4 b1
            clear b4 b1
            go_wp2_with fail
            refine (gp.out _ (HT.out.below b5) (HB.out.below b5)).mono ?_
            rintro e w5 ⟨rfl, d5⟩
            have b6 := below_trans' b5 (d5.below _)
            clear b5 d5
            go_wp2_with fail
            refine (KNO.out _).mono ?_
            rintro e w6 ⟨rfl, rfl⟩
            go_wp2_with fail
            refine (coded_ev E (gC L) _ (HE.out.below b6) (by omega)).mono ?_
            rintro e w7 ⟨rfl, b1⟩
            have b7 := below_trans' b6 b1
            clear b6 b1
            go_wp2_with fail
            refine (tp.out _ (HT.out.below b7) (HB.out.below b7)).mono ?_
            rintro e w8 ⟨rfl, d8⟩
            have b8 := below_trans' b7 (d8.below _)
            clear b7 d8
            go_wp2_with fail
            refine (KTO.out _).mono ?_
            rintro e w9 ⟨rfl, rfl⟩
            go_wp2_with fail
            refine (coded_ev E (tC L) _ (HE.out.below b8) (by omega)).mono ?_
            rintro e wx ⟨rfl, b1⟩
            have b9 := below_trans' b8 b1
            clear b8 b1
            go_wp2_with fail
            go_ret
            exact ⟨rfl, b9⟩
          · have t0 := KTC.out.resolve_left ht
            have t1 : ((tC L : Int) == 0) = false := by rw [beq_eq_false_iff_ne]; omega
            have t2 : (0 : Int) < tC L := by omega
            have t3 : (0 : Int) = 0 := rfl
            have m2 : True := trivial
            have tp := KGT.out
            rw [t0.2.2, bs_nil] at tp
            have tp := Lib.hid tp
            clear t0 ht
            go_enter Tryd.func4, Tryd.ntmps4
            go_wp2_with fail
            refine NB.out.mono ?_
            rintro e w0 ⟨rfl, b0⟩
            go_wp2_with fail
            refine (put_yes m _ hp3).mono ?_
            rintro e w1 ⟨rfl, b1⟩
            have b2 := below_trans' b0 b1
            clear b0 b1
            go_wp2_with fail
            refine (rnumtext_any m _ hp3).mono ?_
            rintro e w2 ⟨rfl, b1⟩
            have b3 := below_trans' b2 b1
            clear b2 b1
            go_wp2_with fail
            have PT := KPT.out w2 (HB.out.below b3)
            rw [KP.out.1, KP.out.2, bs_nil] at PT
            refine PT.mono ?_
            rintro e w3 ⟨rfl, b1⟩
            have b4 := below_trans' b3 b1
            clear b3 b1 PT
            go_wp2_with fail
            refine (coded_ev E 2 _ (HE.out.below b4) (by omega)).mono ?_
            rintro e w4 ⟨rfl, b1⟩
            have b5 := below_trans' b4 b1
            clear b4 b1
            go_wp2_with fail
            refine (gp.out _ (HT.out.below b5) (HB.out.below b5)).mono ?_
            rintro e w5 ⟨rfl, d5⟩
            have b6 := below_trans' b5 (d5.below _)
            clear b5 d5
            go_wp2_with fail
            refine (KNO.out _).mono ?_
            rintro e w6 ⟨rfl, rfl⟩
            go_wp2_with fail
            refine (coded_ev E (gC L) _ (HE.out.below b6) (by omega)).mono ?_
            rintro e w7 ⟨rfl, b1⟩
            have b7 := below_trans' b6 b1
            clear b6 b1
            go_wp2_with fail
            refine (tp.out _ (HT.out.below b7) (HB.out.below b7)).mono ?_
            rintro e w8 ⟨rfl, d8⟩
            have b8 := below_trans' b7 (d8.below _)
            clear b7 d8
            go_wp2_with fail
            refine (KTO.out _).mono ?_
            rintro e w9 ⟨rfl, rfl⟩
            go_wp2_with fail
            refine (coded_ev E (tC L) _ (HE.out.below b8) (by omega)).mono ?_
            rintro e wx ⟨rfl, b1⟩
            have b9 := below_trans' b8 b1
            clear b8 b1
            go_wp2_with fail
            go_ret
            exact ⟨rfl, b9⟩
    · have hp1 : a0 < 0 := by omega
      rcases hsz with hsz | hsz
      · have hz1 : ¬ (300 : Int) < a1.size := by omega
        have hz2 : ¬ (20000 : Int) < a1.size := by omega
        have KP := Lib.hid (KP1.out hsz)
        by_cases hg : gC L = 0
        · obtain ⟨n1, n2, n3⟩ := KN.out hg
          have g1 : ((gC L : Int) == 0) = true := by rw [beq_iff_eq]; omega
          have g2 : ¬ (0 : Int) < gC L := by omega
          have g3 : a1.extract (nAt a1.size 0 L) a1.size = bs (gR L) := by rw [KCUT.out, n1]
          have gp := Lib.hid KG.out
          clear n1 n3 hg
          by_cases ht : tC L = 0
          · obtain ⟨m2, t3⟩ := KT.out ht
            have t1 : ((tC L : Int) == 0) = true := by rw [beq_iff_eq]; omega
            have t2 : ¬ (0 : Int) < tC L := by omega
            have tp := Lib.hid KGT.out
            clear ht
            go_enter Tryd.func4, Tryd.ntmps4
            go_wp2_with fail
            refine NB.out.mono ?_
            rintro e w0 ⟨rfl, b0⟩
            go_wp2_with fail
            have PN := put_no E a0 w0 (by omega) (HB.out.below b0)
            rw [bs_nil] at PN
            refine PN.mono ?_
            rintro e w1 ⟨rfl, b1⟩
            have b2 := below_trans' b0 b1
            clear b0 b1 PN
            go_wp2_with fail
            refine (coded_ev E 2 _ (HE.out.below b2) (by omega)).mono ?_
            rintro e w2 ⟨rfl, b1⟩
            have b3 := below_trans' b2 b1
            clear b2 b1
            go_wp2_with fail
            have PT := KPT.out w2 (HB.out.below b3)
            rw [KP.out.1, KP.out.2, ev_zero] at PT
            refine PT.mono ?_
            rintro e w3 ⟨rfl, b1⟩
            have b4 := below_trans' b3 b1
            clear b3 b1 PT
            go_wp2_with fail
            refine (KCN.out w3).mono ?_
            rintro e w4 ⟨rfl, b1⟩
            have b5 := below_trans' b4 b1
            clear b4 b1
            go_wp2_with fail
            refine (gp.out _ (HT.out.below b5) (HB.out.below b5)).mono ?_
            rintro e w5 ⟨rfl, d5⟩
            have b6 := below_trans' b5 (d5.below _)
            clear b5 d5
            go_wp2_with fail
            refine (KNO.out _).mono ?_
            rintro e w6 ⟨rfl, rfl⟩
            go_wp2_with fail
            refine (coded_ev E (gC L) _ (HE.out.below b6) (by omega)).mono ?_
            rintro e w7 ⟨rfl, b1⟩
            have b7 := below_trans' b6 b1
            clear b6 b1
            go_wp2_with fail
            refine (tp.out _ (HT.out.below b7) (HB.out.below b7)).mono ?_
            rintro e w8 ⟨rfl, d8⟩
            have b8 := below_trans' b7 (d8.below _)
            clear b7 d8
            go_wp2_with fail
            refine (KTO.out _).mono ?_
            rintro e w9 ⟨rfl, rfl⟩
            go_wp2_with fail
            refine (coded_ev E (tC L) _ (HE.out.below b8) (by omega)).mono ?_
            rintro e wx ⟨rfl, b1⟩
            have b9 := below_trans' b8 b1
            clear b8 b1
            go_wp2_with fail
            go_ret
            exact ⟨rfl, b9⟩
          · have t0 := KTC.out.resolve_left ht
            have t1 : ((tC L : Int) == 0) = false := by rw [beq_eq_false_iff_ne]; omega
            have t2 : (0 : Int) < tC L := by omega
            have t3 : (0 : Int) = 0 := rfl
            have m2 : True := trivial
            have tp := KGT.out
            rw [t0.2.2, bs_nil] at tp
            have tp := Lib.hid tp
            clear t0 ht
            go_enter Tryd.func4, Tryd.ntmps4
            go_wp2_with fail
            refine NB.out.mono ?_
            rintro e w0 ⟨rfl, b0⟩
            go_wp2_with fail
            have PN := put_no E a0 w0 (by omega) (HB.out.below b0)
            rw [bs_nil] at PN
            refine PN.mono ?_
            rintro e w1 ⟨rfl, b1⟩
            have b2 := below_trans' b0 b1
            clear b0 b1 PN
            go_wp2_with fail
            refine (coded_ev E 2 _ (HE.out.below b2) (by omega)).mono ?_
            rintro e w2 ⟨rfl, b1⟩
            have b3 := below_trans' b2 b1
            clear b2 b1
            go_wp2_with fail
            have PT := KPT.out w2 (HB.out.below b3)
            rw [KP.out.1, KP.out.2, ev_zero] at PT
            refine PT.mono ?_
            rintro e w3 ⟨rfl, b1⟩
            have b4 := below_trans' b3 b1
            clear b3 b1 PT
            go_wp2_with fail
            refine (KCN.out w3).mono ?_
            rintro e w4 ⟨rfl, b1⟩
            have b5 := below_trans' b4 b1
            clear b4 b1
            go_wp2_with fail
            refine (gp.out _ (HT.out.below b5) (HB.out.below b5)).mono ?_
            rintro e w5 ⟨rfl, d5⟩
            have b6 := below_trans' b5 (d5.below _)
            clear b5 d5
            go_wp2_with fail
            refine (KNO.out _).mono ?_
            rintro e w6 ⟨rfl, rfl⟩
            go_wp2_with fail
            refine (coded_ev E (gC L) _ (HE.out.below b6) (by omega)).mono ?_
            rintro e w7 ⟨rfl, b1⟩
            have b7 := below_trans' b6 b1
            clear b6 b1
            go_wp2_with fail
            refine (tp.out _ (HT.out.below b7) (HB.out.below b7)).mono ?_
            rintro e w8 ⟨rfl, d8⟩
            have b8 := below_trans' b7 (d8.below _)
            clear b7 d8
            go_wp2_with fail
            refine (KTO.out _).mono ?_
            rintro e w9 ⟨rfl, rfl⟩
            go_wp2_with fail
            refine (coded_ev E (tC L) _ (HE.out.below b8) (by omega)).mono ?_
            rintro e wx ⟨rfl, b1⟩
            have b9 := below_trans' b8 b1
            clear b8 b1
            go_wp2_with fail
            go_ret
            exact ⟨rfl, b9⟩
        · have g0 := KGC.out.resolve_left hg
          have g1 : ((gC L : Int) == 0) = false := by rw [beq_eq_false_iff_ne]; omega
          have g2 : (0 : Int) < gC L := by omega
          have g3 : (0 : Int) = 0 := rfl
          have n2 : True := trivial
          have gp := KG.out
          rw [g0.2.2, bs_nil] at gp
          have gp := Lib.hid gp
          clear g0 hg
          by_cases ht : tC L = 0
          · obtain ⟨m2, t3⟩ := KT.out ht
            have t1 : ((tC L : Int) == 0) = true := by rw [beq_iff_eq]; omega
            have t2 : ¬ (0 : Int) < tC L := by omega
            have tp := Lib.hid KGT.out
            clear ht
            go_enter Tryd.func4, Tryd.ntmps4
            go_wp2_with fail
            refine NB.out.mono ?_
            rintro e w0 ⟨rfl, b0⟩
            go_wp2_with fail
            have PN := put_no E a0 w0 (by omega) (HB.out.below b0)
            rw [bs_nil] at PN
            refine PN.mono ?_
            rintro e w1 ⟨rfl, b1⟩
            have b2 := below_trans' b0 b1
            clear b0 b1 PN
            go_wp2_with fail
            refine (coded_ev E 2 _ (HE.out.below b2) (by omega)).mono ?_
            rintro e w2 ⟨rfl, b1⟩
            have b3 := below_trans' b2 b1
            clear b2 b1
            go_wp2_with fail
            have PT := KPT.out w2 (HB.out.below b3)
            rw [KP.out.1, KP.out.2, ev_zero] at PT
            refine PT.mono ?_
            rintro e w3 ⟨rfl, b1⟩
            have b4 := below_trans' b3 b1
            clear b3 b1 PT
            go_wp2_with fail
            refine (KCN.out w3).mono ?_
            rintro e w4 ⟨rfl, b1⟩
            have b5 := below_trans' b4 b1
            clear b4 b1
            go_wp2_with fail
            refine (gp.out _ (HT.out.below b5) (HB.out.below b5)).mono ?_
            rintro e w5 ⟨rfl, d5⟩
            have b6 := below_trans' b5 (d5.below _)
            clear b5 d5
            go_wp2_with fail
            refine (KNO.out _).mono ?_
            rintro e w6 ⟨rfl, rfl⟩
            go_wp2_with fail
            refine (coded_ev E (gC L) _ (HE.out.below b6) (by omega)).mono ?_
            rintro e w7 ⟨rfl, b1⟩
            have b7 := below_trans' b6 b1
            clear b6 b1
            go_wp2_with fail
            refine (tp.out _ (HT.out.below b7) (HB.out.below b7)).mono ?_
            rintro e w8 ⟨rfl, d8⟩
            have b8 := below_trans' b7 (d8.below _)
            clear b7 d8
            go_wp2_with fail
            refine (KTO.out _).mono ?_
            rintro e w9 ⟨rfl, rfl⟩
            go_wp2_with fail
            refine (coded_ev E (tC L) _ (HE.out.below b8) (by omega)).mono ?_
            rintro e wx ⟨rfl, b1⟩
            have b9 := below_trans' b8 b1
            clear b8 b1
            go_wp2_with fail
            go_ret
            exact ⟨rfl, b9⟩
          · have t0 := KTC.out.resolve_left ht
            have t1 : ((tC L : Int) == 0) = false := by rw [beq_eq_false_iff_ne]; omega
            have t2 : (0 : Int) < tC L := by omega
            have t3 : (0 : Int) = 0 := rfl
            have m2 : True := trivial
            have tp := KGT.out
            rw [t0.2.2, bs_nil] at tp
            have tp := Lib.hid tp
            clear t0 ht
            go_enter Tryd.func4, Tryd.ntmps4
            go_wp2_with fail
            refine NB.out.mono ?_
            rintro e w0 ⟨rfl, b0⟩
            go_wp2_with fail
            have PN := put_no E a0 w0 (by omega) (HB.out.below b0)
            rw [bs_nil] at PN
            refine PN.mono ?_
            rintro e w1 ⟨rfl, b1⟩
            have b2 := below_trans' b0 b1
            clear b0 b1 PN
            go_wp2_with fail
            refine (coded_ev E 2 _ (HE.out.below b2) (by omega)).mono ?_
            rintro e w2 ⟨rfl, b1⟩
            have b3 := below_trans' b2 b1
            clear b2 b1
            go_wp2_with fail
            have PT := KPT.out w2 (HB.out.below b3)
            rw [KP.out.1, KP.out.2, ev_zero] at PT
            refine PT.mono ?_
            rintro e w3 ⟨rfl, b1⟩
            have b4 := below_trans' b3 b1
            clear b3 b1 PT
            go_wp2_with fail
            refine (KCN.out w3).mono ?_
            rintro e w4 ⟨rfl, b1⟩
            have b5 := below_trans' b4 b1
            clear b4 b1
            go_wp2_with fail
            refine (gp.out _ (HT.out.below b5) (HB.out.below b5)).mono ?_
            rintro e w5 ⟨rfl, d5⟩
            have b6 := below_trans' b5 (d5.below _)
            clear b5 d5
            go_wp2_with fail
            refine (KNO.out _).mono ?_
            rintro e w6 ⟨rfl, rfl⟩
            go_wp2_with fail
            refine (coded_ev E (gC L) _ (HE.out.below b6) (by omega)).mono ?_
            rintro e w7 ⟨rfl, b1⟩
            have b7 := below_trans' b6 b1
            clear b6 b1
            go_wp2_with fail
            refine (tp.out _ (HT.out.below b7) (HB.out.below b7)).mono ?_
            rintro e w8 ⟨rfl, d8⟩
            have b8 := below_trans' b7 (d8.below _)
            clear b7 d8
            go_wp2_with fail
            refine (KTO.out _).mono ?_
            rintro e w9 ⟨rfl, rfl⟩
            go_wp2_with fail
            refine (coded_ev E (tC L) _ (HE.out.below b8) (by omega)).mono ?_
            rintro e wx ⟨rfl, b1⟩
            have b9 := below_trans' b8 b1
            clear b8 b1
            go_wp2_with fail
            go_ret
            exact ⟨rfl, b9⟩
      · have hz1 : (300 : Int) < a1.size := by omega
        have hz2 : (20000 : Int) < a1.size := by omega
        have hz3 : ((a1.size : Int) == 20001) = true := by rw [beq_iff_eq]; omega
        have KP := Lib.hid (KP2.out hsz)
        clear hsz
        by_cases hg : gC L = 0
        · obtain ⟨n1, n2, n3⟩ := KN.out hg
          have g1 : ((gC L : Int) == 0) = true := by rw [beq_iff_eq]; omega
          have g2 : ¬ (0 : Int) < gC L := by omega
          have g3 : a1.extract (nAt a1.size 0 L) a1.size = bs (gR L) := by rw [KCUT.out, n1]
          have gp := Lib.hid KG.out
          clear n1 n3 hg
          by_cases ht : tC L = 0
          · obtain ⟨m2, t3⟩ := KT.out ht
            have t1 : ((tC L : Int) == 0) = true := by rw [beq_iff_eq]; omega
            have t2 : ¬ (0 : Int) < tC L := by omega
            have tp := Lib.hid KGT.out
            clear ht
            go_enter Tryd.func4, Tryd.ntmps4
            go_wp2_with fail
            refine NB.out.mono ?_
            rintro e w0 ⟨rfl, b0⟩
            go_wp2_with fail
            have PN := put_no E a0 w0 (by omega) (HB.out.below b0)
            rw [bs_nil] at PN
            refine PN.mono ?_
            rintro e w1 ⟨rfl, b1⟩
            have b2 := below_trans' b0 b1
            clear b0 b1 PN
            go_wp2_with fail
            refine (coded_ev E 2 _ (HE.out.below b2) (by omega)).mono ?_
            rintro e w2 ⟨rfl, b1⟩
            have b3 := below_trans' b2 b1
            clear b2 b1
            go_wp2_with fail
            have PT := KPT.out w2 (HB.out.below b3)
            rw [KP.out.1, KP.out.2, bs_nil] at PT
            refine PT.mono ?_
            rintro e w3 ⟨rfl, b1⟩
            have b4 := below_trans' b3 b1
            clear b3 b1 PT
            go_wp2_with fail
            refine (coded_ev E 2 _ (HE.out.below b4) (by omega)).mono ?_
            rintro e w4 ⟨rfl, b1⟩
            have b5 := below_trans' b4 b1
            clear b4 b1
            go_wp2_with fail
            refine (gp.out _ (HT.out.below b5) (HB.out.below b5)).mono ?_
            rintro e w5 ⟨rfl, d5⟩
            have b6 := below_trans' b5 (d5.below _)
            clear b5 d5
            go_wp2_with fail
            refine (KNO.out _).mono ?_
            rintro e w6 ⟨rfl, rfl⟩
            go_wp2_with fail
            refine (coded_ev E (gC L) _ (HE.out.below b6) (by omega)).mono ?_
            rintro e w7 ⟨rfl, b1⟩
            have b7 := below_trans' b6 b1
            clear b6 b1
            go_wp2_with fail
            refine (tp.out _ (HT.out.below b7) (HB.out.below b7)).mono ?_
            rintro e w8 ⟨rfl, d8⟩
            have b8 := below_trans' b7 (d8.below _)
            clear b7 d8
            go_wp2_with fail
            refine (KTO.out _).mono ?_
            rintro e w9 ⟨rfl, rfl⟩
            go_wp2_with fail
            refine (coded_ev E (tC L) _ (HE.out.below b8) (by omega)).mono ?_
            rintro e wx ⟨rfl, b1⟩
            have b9 := below_trans' b8 b1
            clear b8 b1
            go_wp2_with fail
            go_ret
            exact ⟨rfl, b9⟩
          · have t0 := KTC.out.resolve_left ht
            have t1 : ((tC L : Int) == 0) = false := by rw [beq_eq_false_iff_ne]; omega
            have t2 : (0 : Int) < tC L := by omega
            have t3 : (0 : Int) = 0 := rfl
            have m2 : True := trivial
            have tp := KGT.out
            rw [t0.2.2, bs_nil] at tp
            have tp := Lib.hid tp
            clear t0 ht
            go_enter Tryd.func4, Tryd.ntmps4
            go_wp2_with fail
            refine NB.out.mono ?_
            rintro e w0 ⟨rfl, b0⟩
            go_wp2_with fail
            have PN := put_no E a0 w0 (by omega) (HB.out.below b0)
            rw [bs_nil] at PN
            refine PN.mono ?_
            rintro e w1 ⟨rfl, b1⟩
            have b2 := below_trans' b0 b1
            clear b0 b1 PN
            go_wp2_with fail
            refine (coded_ev E 2 _ (HE.out.below b2) (by omega)).mono ?_
            rintro e w2 ⟨rfl, b1⟩
            have b3 := below_trans' b2 b1
            clear b2 b1
            go_wp2_with fail
            have PT := KPT.out w2 (HB.out.below b3)
            rw [KP.out.1, KP.out.2, bs_nil] at PT
            refine PT.mono ?_
            rintro e w3 ⟨rfl, b1⟩
            have b4 := below_trans' b3 b1
            clear b3 b1 PT
            go_wp2_with fail
            refine (coded_ev E 2 _ (HE.out.below b4) (by omega)).mono ?_
            rintro e w4 ⟨rfl, b1⟩
            have b5 := below_trans' b4 b1
            clear b4 b1
            go_wp2_with fail
            refine (gp.out _ (HT.out.below b5) (HB.out.below b5)).mono ?_
            rintro e w5 ⟨rfl, d5⟩
            have b6 := below_trans' b5 (d5.below _)
            clear b5 d5
            go_wp2_with fail
            refine (KNO.out _).mono ?_
            rintro e w6 ⟨rfl, rfl⟩
            go_wp2_with fail
            refine (coded_ev E (gC L) _ (HE.out.below b6) (by omega)).mono ?_
            rintro e w7 ⟨rfl, b1⟩
            have b7 := below_trans' b6 b1
            clear b6 b1
            go_wp2_with fail
            refine (tp.out _ (HT.out.below b7) (HB.out.below b7)).mono ?_
            rintro e w8 ⟨rfl, d8⟩
            have b8 := below_trans' b7 (d8.below _)
            clear b7 d8
            go_wp2_with fail
            refine (KTO.out _).mono ?_
            rintro e w9 ⟨rfl, rfl⟩
            go_wp2_with fail
            refine (coded_ev E (tC L) _ (HE.out.below b8) (by omega)).mono ?_
            rintro e wx ⟨rfl, b1⟩
            have b9 := below_trans' b8 b1
            clear b8 b1
            go_wp2_with fail
            go_ret
            exact ⟨rfl, b9⟩
        · have g0 := KGC.out.resolve_left hg
          have g1 : ((gC L : Int) == 0) = false := by rw [beq_eq_false_iff_ne]; omega
          have g2 : (0 : Int) < gC L := by omega
          have g3 : (0 : Int) = 0 := rfl
          have n2 : True := trivial
          have gp := KG.out
          rw [g0.2.2, bs_nil] at gp
          have gp := Lib.hid gp
          clear g0 hg
          by_cases ht : tC L = 0
          · obtain ⟨m2, t3⟩ := KT.out ht
            have t1 : ((tC L : Int) == 0) = true := by rw [beq_iff_eq]; omega
            have t2 : ¬ (0 : Int) < tC L := by omega
            have tp := Lib.hid KGT.out
            clear ht
            go_enter Tryd.func4, Tryd.ntmps4
            go_wp2_with fail
            refine NB.out.mono ?_
            rintro e w0 ⟨rfl, b0⟩
            go_wp2_with fail
            have PN := put_no E a0 w0 (by omega) (HB.out.below b0)
            rw [bs_nil] at PN
            refine PN.mono ?_
            rintro e w1 ⟨rfl, b1⟩
            have b2 := below_trans' b0 b1
            clear b0 b1 PN
            go_wp2_with fail
            refine (coded_ev E 2 _ (HE.out.below b2) (by omega)).mono ?_
            rintro e w2 ⟨rfl, b1⟩
            have b3 := below_trans' b2 b1
            clear b2 b1
            go_wp2_with fail
            have PT := KPT.out w2 (HB.out.below b3)
            rw [KP.out.1, KP.out.2, bs_nil] at PT
            refine PT.mono ?_
            rintro e w3 ⟨rfl, b1⟩
            have b4 := below_trans' b3 b1
            clear b3 b1 PT
            go_wp2_with fail
            refine (coded_ev E 2 _ (HE.out.below b4) (by omega)).mono ?_
            rintro e w4 ⟨rfl, b1⟩
            have b5 := below_trans' b4 b1
            clear b4 b1
            go_wp2_with fail
            refine (gp.out _ (HT.out.below b5) (HB.out.below b5)).mono ?_
            rintro e w5 ⟨rfl, d5⟩
            have b6 := below_trans' b5 (d5.below _)
            clear b5 d5
            go_wp2_with fail
            refine (KNO.out _).mono ?_
            rintro e w6 ⟨rfl, rfl⟩
            go_wp2_with fail
            refine (coded_ev E (gC L) _ (HE.out.below b6) (by omega)).mono ?_
            rintro e w7 ⟨rfl, b1⟩
            have b7 := below_trans' b6 b1
            clear b6 b1
            go_wp2_with fail
            refine (tp.out _ (HT.out.below b7) (HB.out.below b7)).mono ?_
            rintro e w8 ⟨rfl, d8⟩
            have b8 := below_trans' b7 (d8.below _)
            clear b7 d8
            go_wp2_with fail
            refine (KTO.out _).mono ?_
            rintro e w9 ⟨rfl, rfl⟩
            go_wp2_with fail
            refine (coded_ev E (tC L) _ (HE.out.below b8) (by omega)).mono ?_
            rintro e wx ⟨rfl, b1⟩
            have b9 := below_trans' b8 b1
            clear b8 b1
            go_wp2_with fail
            go_ret
            exact ⟨rfl, b9⟩
          · have t0 := KTC.out.resolve_left ht
            have t1 : ((tC L : Int) == 0) = false := by rw [beq_eq_false_iff_ne]; omega
            have t2 : (0 : Int) < tC L := by omega
            have t3 : (0 : Int) = 0 := rfl
            have m2 : True := trivial
            have tp := KGT.out
            rw [t0.2.2, bs_nil] at tp
            have tp := Lib.hid tp
            clear t0 ht
            go_enter Tryd.func4, Tryd.ntmps4
            go_wp2_with fail
            refine NB.out.mono ?_
            rintro e w0 ⟨rfl, b0⟩
            go_wp2_with fail
            have PN := put_no E a0 w0 (by omega) (HB.out.below b0)
            rw [bs_nil] at PN
            refine PN.mono ?_
            rintro e w1 ⟨rfl, b1⟩
            have b2 := below_trans' b0 b1
            clear b0 b1 PN
            go_wp2_with fail
            refine (coded_ev E 2 _ (HE.out.below b2) (by omega)).mono ?_
            rintro e w2 ⟨rfl, b1⟩
            have b3 := below_trans' b2 b1
            clear b2 b1
            go_wp2_with fail
            have PT := KPT.out w2 (HB.out.below b3)
            rw [KP.out.1, KP.out.2, bs_nil] at PT
            refine PT.mono ?_
            rintro e w3 ⟨rfl, b1⟩
            have b4 := below_trans' b3 b1
            clear b3 b1 PT
            go_wp2_with fail
            refine (coded_ev E 2 _ (HE.out.below b4) (by omega)).mono ?_
            rintro e w4 ⟨rfl, b1⟩
            have b5 := below_trans' b4 b1
            clear b4 b1
            go_wp2_with fail
            refine (gp.out _ (HT.out.below b5) (HB.out.below b5)).mono ?_
            rintro e w5 ⟨rfl, d5⟩
            have b6 := below_trans' b5 (d5.below _)
            clear b5 d5
            go_wp2_with fail
            refine (KNO.out _).mono ?_
            rintro e w6 ⟨rfl, rfl⟩
            go_wp2_with fail
            refine (coded_ev E (gC L) _ (HE.out.below b6) (by omega)).mono ?_
            rintro e w7 ⟨rfl, b1⟩
            have b7 := below_trans' b6 b1
            clear b6 b1
            go_wp2_with fail
            refine (tp.out _ (HT.out.below b7) (HB.out.below b7)).mono ?_
            rintro e w8 ⟨rfl, d8⟩
            have b8 := below_trans' b7 (d8.below _)
            clear b7 d8
            go_wp2_with fail
            refine (KTO.out _).mono ?_
            rintro e w9 ⟨rfl, rfl⟩
            go_wp2_with fail
            refine (coded_ev E (tC L) _ (HE.out.below b8) (by omega)).mono ?_
            rintro e wx ⟨rfl, b1⟩
            have b9 := below_trans' b8 b1
            clear b8 b1
            go_wp2_with fail
            go_ret
            exact ⟨rfl, b9⟩
    · have hp1 : ¬ a0 < 0 := by omega
      have hp2 : 1099511627776 < a0 := by omega
      rcases hsz with hsz | hsz
      · have hz1 : ¬ (300 : Int) < a1.size := by omega
        have hz2 : ¬ (20000 : Int) < a1.size := by omega
        have KP := Lib.hid (KP1.out hsz)
        by_cases hg : gC L = 0
        · obtain ⟨n1, n2, n3⟩ := KN.out hg
          have g1 : ((gC L : Int) == 0) = true := by rw [beq_iff_eq]; omega
          have g2 : ¬ (0 : Int) < gC L := by omega
          have g3 : a1.extract (nAt a1.size 0 L) a1.size = bs (gR L) := by rw [KCUT.out, n1]
          have gp := Lib.hid KG.out
          clear n1 n3 hg
          by_cases ht : tC L = 0
          · obtain ⟨m2, t3⟩ := KT.out ht
            have t1 : ((tC L : Int) == 0) = true := by rw [beq_iff_eq]; omega
            have t2 : ¬ (0 : Int) < tC L := by omega
            have tp := Lib.hid KGT.out
            clear ht
            go_enter Tryd.func4, Tryd.ntmps4
            go_wp2_with fail
            refine NB.out.mono ?_
            rintro e w0 ⟨rfl, b0⟩
            go_wp2_with fail
            have PN := put_no E a0 w0 (by omega) (HB.out.below b0)
            rw [bs_nil] at PN
            refine PN.mono ?_
            rintro e w1 ⟨rfl, b1⟩
            have b2 := below_trans' b0 b1
            clear b0 b1 PN
            go_wp2_with fail
            refine (coded_ev E 2 _ (HE.out.below b2) (by omega)).mono ?_
            rintro e w2 ⟨rfl, b1⟩
            have b3 := below_trans' b2 b1
            clear b2 b1
            go_wp2_with fail
            have PT := KPT.out w2 (HB.out.below b3)
            rw [KP.out.1, KP.out.2, ev_zero] at PT
            refine PT.mono ?_
            rintro e w3 ⟨rfl, b1⟩
            have b4 := below_trans' b3 b1
            clear b3 b1 PT
            go_wp2_with fail
            refine (KCN.out w3).mono ?_
            rintro e w4 ⟨rfl, b1⟩
            have b5 := below_trans' b4 b1
            clear b4 b1
            go_wp2_with fail
            refine (gp.out _ (HT.out.below b5) (HB.out.below b5)).mono ?_
            rintro e w5 ⟨rfl, d5⟩
            have b6 := below_trans' b5 (d5.below _)
            clear b5 d5
            go_wp2_with fail
            refine (KNO.out _).mono ?_
            rintro e w6 ⟨rfl, rfl⟩
            go_wp2_with fail
            refine (coded_ev E (gC L) _ (HE.out.below b6) (by omega)).mono ?_
            rintro e w7 ⟨rfl, b1⟩
            have b7 := below_trans' b6 b1
            clear b6 b1
            go_wp2_with fail
            refine (tp.out _ (HT.out.below b7) (HB.out.below b7)).mono ?_
            rintro e w8 ⟨rfl, d8⟩
            have b8 := below_trans' b7 (d8.below _)
            clear b7 d8
            go_wp2_with fail
            refine (KTO.out _).mono ?_
            rintro e w9 ⟨rfl, rfl⟩
            go_wp2_with fail
            refine (coded_ev E (tC L) _ (HE.out.below b8) (by omega)).mono ?_
            rintro e wx ⟨rfl, b1⟩
            have b9 := below_trans' b8 b1
            clear b8 b1
            go_wp2_with fail
            go_ret
            exact ⟨rfl, b9⟩
          · have t0 := KTC.out.resolve_left ht
            have t1 : ((tC L : Int) == 0) = false := by rw [beq_eq_false_iff_ne]; omega
            have t2 : (0 : Int) < tC L := by omega
            have t3 : (0 : Int) = 0 := rfl
            have m2 : True := trivial
            have tp := KGT.out
            rw [t0.2.2, bs_nil] at tp
            have tp := Lib.hid tp
            clear t0 ht
            go_enter Tryd.func4, Tryd.ntmps4
            go_wp2_with fail
            refine NB.out.mono ?_
            rintro e w0 ⟨rfl, b0⟩
            go_wp2_with fail
            have PN := put_no E a0 w0 (by omega) (HB.out.below b0)
            rw [bs_nil] at PN
            refine PN.mono ?_
            rintro e w1 ⟨rfl, b1⟩
            have b2 := below_trans' b0 b1
            clear b0 b1 PN
            go_wp2_with fail
            refine (coded_ev E 2 _ (HE.out.below b2) (by omega)).mono ?_
            rintro e w2 ⟨rfl, b1⟩
            have b3 := below_trans' b2 b1
            clear b2 b1
            go_wp2_with fail
            have PT := KPT.out w2 (HB.out.below b3)
            rw [KP.out.1, KP.out.2, ev_zero] at PT
            refine PT.mono ?_
            rintro e w3 ⟨rfl, b1⟩
            have b4 := below_trans' b3 b1
            clear b3 b1 PT
            go_wp2_with fail
            refine (KCN.out w3).mono ?_
            rintro e w4 ⟨rfl, b1⟩
            have b5 := below_trans' b4 b1
            clear b4 b1
            go_wp2_with fail
            refine (gp.out _ (HT.out.below b5) (HB.out.below b5)).mono ?_
            rintro e w5 ⟨rfl, d5⟩
            have b6 := below_trans' b5 (d5.below _)
            clear b5 d5
            go_wp2_with fail
            refine (KNO.out _).mono ?_
            rintro e w6 ⟨rfl, rfl⟩
            go_wp2_with fail
            refine (coded_ev E (gC L) _ (HE.out.below b6) (by omega)).mono ?_
            rintro e w7 ⟨rfl, b1⟩
            have b7 := below_trans' b6 b1
            clear b6 b1
            go_wp2_with fail
            refine (tp.out _ (HT.out.below b7) (HB.out.below b7)).mono ?_
            rintro e w8 ⟨rfl, d8⟩
            have b8 := below_trans' b7 (d8.below _)
            clear b7 d8
            go_wp2_with fail
            refine (KTO.out _).mono ?_
            rintro e w9 ⟨rfl, rfl⟩
            go_wp2_with fail
            refine (coded_ev E (tC L) _ (HE.out.below b8) (by omega)).mono ?_
            rintro e wx ⟨rfl, b1⟩
            have b9 := below_trans' b8 b1
            clear b8 b1
            go_wp2_with fail
            go_ret
            exact ⟨rfl, b9⟩
        · have g0 := KGC.out.resolve_left hg
          have g1 : ((gC L : Int) == 0) = false := by rw [beq_eq_false_iff_ne]; omega
          have g2 : (0 : Int) < gC L := by omega
          have g3 : (0 : Int) = 0 := rfl
          have n2 : True := trivial
          have gp := KG.out
          rw [g0.2.2, bs_nil] at gp
          have gp := Lib.hid gp
          clear g0 hg
          by_cases ht : tC L = 0
          · obtain ⟨m2, t3⟩ := KT.out ht
            have t1 : ((tC L : Int) == 0) = true := by rw [beq_iff_eq]; omega
            have t2 : ¬ (0 : Int) < tC L := by omega
            have tp := Lib.hid KGT.out
            clear ht
            go_enter Tryd.func4, Tryd.ntmps4
            go_wp2_with fail
            refine NB.out.mono ?_
            rintro e w0 ⟨rfl, b0⟩
            go_wp2_with fail
            have PN := put_no E a0 w0 (by omega) (HB.out.below b0)
            rw [bs_nil] at PN
            refine PN.mono ?_
            rintro e w1 ⟨rfl, b1⟩
            have b2 := below_trans' b0 b1
            clear b0 b1 PN
            go_wp2_with fail
            refine (coded_ev E 2 _ (HE.out.below b2) (by omega)).mono ?_
            rintro e w2 ⟨rfl, b1⟩
            have b3 := below_trans' b2 b1
            clear b2 b1
            go_wp2_with fail
            have PT := KPT.out w2 (HB.out.below b3)
            rw [KP.out.1, KP.out.2, ev_zero] at PT
            refine PT.mono ?_
            rintro e w3 ⟨rfl, b1⟩
            have b4 := below_trans' b3 b1
            clear b3 b1 PT
            go_wp2_with fail
            refine (KCN.out w3).mono ?_
            rintro e w4 ⟨rfl, b1⟩
            have b5 := below_trans' b4 b1
            clear b4 b1
            go_wp2_with fail
            refine (gp.out _ (HT.out.below b5) (HB.out.below b5)).mono ?_
            rintro e w5 ⟨rfl, d5⟩
            have b6 := below_trans' b5 (d5.below _)
            clear b5 d5
            go_wp2_with fail
            refine (KNO.out _).mono ?_
            rintro e w6 ⟨rfl, rfl⟩
            go_wp2_with fail
            refine (coded_ev E (gC L) _ (HE.out.below b6) (by omega)).mono ?_
            rintro e w7 ⟨rfl, b1⟩
            have b7 := below_trans' b6 b1
            clear b6 b1
            go_wp2_with fail
            refine (tp.out _ (HT.out.below b7) (HB.out.below b7)).mono ?_
            rintro e w8 ⟨rfl, d8⟩
            have b8 := below_trans' b7 (d8.below _)
            clear b7 d8
            go_wp2_with fail
            refine (KTO.out _).mono ?_
            rintro e w9 ⟨rfl, rfl⟩
            go_wp2_with fail
            refine (coded_ev E (tC L) _ (HE.out.below b8) (by omega)).mono ?_
            rintro e wx ⟨rfl, b1⟩
            have b9 := below_trans' b8 b1
            clear b8 b1
            go_wp2_with fail
            go_ret
            exact ⟨rfl, b9⟩
          · have t0 := KTC.out.resolve_left ht
            have t1 : ((tC L : Int) == 0) = false := by rw [beq_eq_false_iff_ne]; omega
            have t2 : (0 : Int) < tC L := by omega
            have t3 : (0 : Int) = 0 := rfl
            have m2 : True := trivial
            have tp := KGT.out
            rw [t0.2.2, bs_nil] at tp
            have tp := Lib.hid tp
            clear t0 ht
            go_enter Tryd.func4, Tryd.ntmps4
            go_wp2_with fail
            refine NB.out.mono ?_
            rintro e w0 ⟨rfl, b0⟩
            go_wp2_with fail
            have PN := put_no E a0 w0 (by omega) (HB.out.below b0)
            rw [bs_nil] at PN
            refine PN.mono ?_
            rintro e w1 ⟨rfl, b1⟩
            have b2 := below_trans' b0 b1
            clear b0 b1 PN
            go_wp2_with fail
            refine (coded_ev E 2 _ (HE.out.below b2) (by omega)).mono ?_
            rintro e w2 ⟨rfl, b1⟩
            have b3 := below_trans' b2 b1
            clear b2 b1
            go_wp2_with fail
            have PT := KPT.out w2 (HB.out.below b3)
            rw [KP.out.1, KP.out.2, ev_zero] at PT
            refine PT.mono ?_
            rintro e w3 ⟨rfl, b1⟩
            have b4 := below_trans' b3 b1
            clear b3 b1 PT
            go_wp2_with fail
            refine (KCN.out w3).mono ?_
            rintro e w4 ⟨rfl, b1⟩
            have b5 := below_trans' b4 b1
            clear b4 b1
            go_wp2_with fail
            refine (gp.out _ (HT.out.below b5) (HB.out.below b5)).mono ?_
            rintro e w5 ⟨rfl, d5⟩
            have b6 := below_trans' b5 (d5.below _)
            clear b5 d5
            go_wp2_with fail
            refine (KNO.out _).mono ?_
            rintro e w6 ⟨rfl, rfl⟩
            go_wp2_with fail
            refine (coded_ev E (gC L) _ (HE.out.below b6) (by omega)).mono ?_
            rintro e w7 ⟨rfl, b1⟩
            have b7 := below_trans' b6 b1
            clear b6 b1
            go_wp2_with fail
            refine (tp.out _ (HT.out.below b7) (HB.out.below b7)).mono ?_
            rintro e w8 ⟨rfl, d8⟩
            have b8 := below_trans' b7 (d8.below _)
            clear b7 d8
            go_wp2_with fail
            refine (KTO.out _).mono ?_
            rintro e w9 ⟨rfl, rfl⟩
            go_wp2_with fail
            refine (coded_ev E (tC L) _ (HE.out.below b8) (by omega)).mono ?_
            rintro e wx ⟨rfl, b1⟩
            have b9 := below_trans' b8 b1
            clear b8 b1
            go_wp2_with fail
            go_ret
            exact ⟨rfl, b9⟩
      · have hz1 : (300 : Int) < a1.size := by omega
        have hz2 : (20000 : Int) < a1.size := by omega
        have hz3 : ((a1.size : Int) == 20001) = true := by rw [beq_iff_eq]; omega
        have KP := Lib.hid (KP2.out hsz)
        clear hsz
        by_cases hg : gC L = 0
        · obtain ⟨n1, n2, n3⟩ := KN.out hg
          have g1 : ((gC L : Int) == 0) = true := by rw [beq_iff_eq]; omega
          have g2 : ¬ (0 : Int) < gC L := by omega
          have g3 : a1.extract (nAt a1.size 0 L) a1.size = bs (gR L) := by rw [KCUT.out, n1]
          have gp := Lib.hid KG.out
          clear n1 n3 hg
          by_cases ht : tC L = 0
          · obtain ⟨m2, t3⟩ := KT.out ht
            have t1 : ((tC L : Int) == 0) = true := by rw [beq_iff_eq]; omega
            have t2 : ¬ (0 : Int) < tC L := by omega
            have tp := Lib.hid KGT.out
            clear ht
            go_enter Tryd.func4, Tryd.ntmps4
            go_wp2_with fail
            refine NB.out.mono ?_
            rintro e w0 ⟨rfl, b0⟩
            go_wp2_with fail
            have PN := put_no E a0 w0 (by omega) (HB.out.below b0)
            rw [bs_nil] at PN
            refine PN.mono ?_
            rintro e w1 ⟨rfl, b1⟩
            have b2 := below_trans' b0 b1
            clear b0 b1 PN
            go_wp2_with fail
            refine (coded_ev E 2 _ (HE.out.below b2) (by omega)).mono ?_
            rintro e w2 ⟨rfl, b1⟩
            have b3 := below_trans' b2 b1
            clear b2 b1
            go_wp2_with fail
            have PT := KPT.out w2 (HB.out.below b3)
            rw [KP.out.1, KP.out.2, bs_nil] at PT
            refine PT.mono ?_
            rintro e w3 ⟨rfl, b1⟩
            have b4 := below_trans' b3 b1
            clear b3 b1 PT
            go_wp2_with fail
            refine (coded_ev E 2 _ (HE.out.below b4) (by omega)).mono ?_
            rintro e w4 ⟨rfl, b1⟩
            have b5 := below_trans' b4 b1
            clear b4 b1
            go_wp2_with fail
            refine (gp.out _ (HT.out.below b5) (HB.out.below b5)).mono ?_
            rintro e w5 ⟨rfl, d5⟩
            have b6 := below_trans' b5 (d5.below _)
            clear b5 d5
            go_wp2_with fail
            refine (KNO.out _).mono ?_
            rintro e w6 ⟨rfl, rfl⟩
            go_wp2_with fail
            refine (coded_ev E (gC L) _ (HE.out.below b6) (by omega)).mono ?_
            rintro e w7 ⟨rfl, b1⟩
            have b7 := below_trans' b6 b1
            clear b6 b1
            go_wp2_with fail
            refine (tp.out _ (HT.out.below b7) (HB.out.below b7)).mono ?_
            rintro e w8 ⟨rfl, d8⟩
            have b8 := below_trans' b7 (d8.below _)
            clear b7 d8
            go_wp2_with fail
            refine (KTO.out _).mono ?_
            rintro e w9 ⟨rfl, rfl⟩
            go_wp2_with fail
            refine (coded_ev E (tC L) _ (HE.out.below b8) (by omega)).mono ?_
            rintro e wx ⟨rfl, b1⟩
            have b9 := below_trans' b8 b1
            clear b8 b1
            go_wp2_with fail
            go_ret
            exact ⟨rfl, b9⟩
          · have t0 := KTC.out.resolve_left ht
            have t1 : ((tC L : Int) == 0) = false := by rw [beq_eq_false_iff_ne]; omega
            have t2 : (0 : Int) < tC L := by omega
            have t3 : (0 : Int) = 0 := rfl
            have m2 : True := trivial
            have tp := KGT.out
            rw [t0.2.2, bs_nil] at tp
            have tp := Lib.hid tp
            clear t0 ht
            go_enter Tryd.func4, Tryd.ntmps4
            go_wp2_with fail
            refine NB.out.mono ?_
            rintro e w0 ⟨rfl, b0⟩
            go_wp2_with fail
            have PN := put_no E a0 w0 (by omega) (HB.out.below b0)
            rw [bs_nil] at PN
            refine PN.mono ?_
            rintro e w1 ⟨rfl, b1⟩
            have b2 := below_trans' b0 b1
            clear b0 b1 PN
            go_wp2_with fail
            refine (coded_ev E 2 _ (HE.out.below b2) (by omega)).mono ?_
            rintro e w2 ⟨rfl, b1⟩
            have b3 := below_trans' b2 b1
            clear b2 b1
            go_wp2_with fail
            have PT := KPT.out w2 (HB.out.below b3)
            rw [KP.out.1, KP.out.2, bs_nil] at PT
            refine PT.mono ?_
            rintro e w3 ⟨rfl, b1⟩
            have b4 := below_trans' b3 b1
            clear b3 b1 PT
            go_wp2_with fail
            refine (coded_ev E 2 _ (HE.out.below b4) (by omega)).mono ?_
            rintro e w4 ⟨rfl, b1⟩
            have b5 := below_trans' b4 b1
            clear b4 b1
            go_wp2_with fail
            refine (gp.out _ (HT.out.below b5) (HB.out.below b5)).mono ?_
            rintro e w5 ⟨rfl, d5⟩
            have b6 := below_trans' b5 (d5.below _)
            clear b5 d5
            go_wp2_with fail
            refine (KNO.out _).mono ?_
            rintro e w6 ⟨rfl, rfl⟩
            go_wp2_with fail
            refine (coded_ev E (gC L) _ (HE.out.below b6) (by omega)).mono ?_
            rintro e w7 ⟨rfl, b1⟩
            have b7 := below_trans' b6 b1
            clear b6 b1
            go_wp2_with fail
            refine (tp.out _ (HT.out.below b7) (HB.out.below b7)).mono ?_
            rintro e w8 ⟨rfl, d8⟩
            have b8 := below_trans' b7 (d8.below _)
            clear b7 d8
            go_wp2_with fail
            refine (KTO.out _).mono ?_
            rintro e w9 ⟨rfl, rfl⟩
            go_wp2_with fail
            refine (coded_ev E (tC L) _ (HE.out.below b8) (by omega)).mono ?_
            rintro e wx ⟨rfl, b1⟩
            have b9 := below_trans' b8 b1
            clear b8 b1
            go_wp2_with fail
            go_ret
            exact ⟨rfl, b9⟩
        · have g0 := KGC.out.resolve_left hg
          have g1 : ((gC L : Int) == 0) = false := by rw [beq_eq_false_iff_ne]; omega
          have g2 : (0 : Int) < gC L := by omega
          have g3 : (0 : Int) = 0 := rfl
          have n2 : True := trivial
          have gp := KG.out
          rw [g0.2.2, bs_nil] at gp
          have gp := Lib.hid gp
          clear g0 hg
          by_cases ht : tC L = 0
          · obtain ⟨m2, t3⟩ := KT.out ht
            have t1 : ((tC L : Int) == 0) = true := by rw [beq_iff_eq]; omega
            have t2 : ¬ (0 : Int) < tC L := by omega
            have tp := Lib.hid KGT.out
            clear ht
            go_enter Tryd.func4, Tryd.ntmps4
            go_wp2_with fail
            refine NB.out.mono ?_
            rintro e w0 ⟨rfl, b0⟩
            go_wp2_with fail
            have PN := put_no E a0 w0 (by omega) (HB.out.below b0)
            rw [bs_nil] at PN
            refine PN.mono ?_
            rintro e w1 ⟨rfl, b1⟩
            have b2 := below_trans' b0 b1
            clear b0 b1 PN
            go_wp2_with fail
            refine (coded_ev E 2 _ (HE.out.below b2) (by omega)).mono ?_
            rintro e w2 ⟨rfl, b1⟩
            have b3 := below_trans' b2 b1
            clear b2 b1
            go_wp2_with fail
            have PT := KPT.out w2 (HB.out.below b3)
            rw [KP.out.1, KP.out.2, bs_nil] at PT
            refine PT.mono ?_
            rintro e w3 ⟨rfl, b1⟩
            have b4 := below_trans' b3 b1
            clear b3 b1 PT
            go_wp2_with fail
            refine (coded_ev E 2 _ (HE.out.below b4) (by omega)).mono ?_
            rintro e w4 ⟨rfl, b1⟩
            have b5 := below_trans' b4 b1
            clear b4 b1
            go_wp2_with fail
            refine (gp.out _ (HT.out.below b5) (HB.out.below b5)).mono ?_
            rintro e w5 ⟨rfl, d5⟩
            have b6 := below_trans' b5 (d5.below _)
            clear b5 d5
            go_wp2_with fail
            refine (KNO.out _).mono ?_
            rintro e w6 ⟨rfl, rfl⟩
            go_wp2_with fail
            refine (coded_ev E (gC L) _ (HE.out.below b6) (by omega)).mono ?_
            rintro e w7 ⟨rfl, b1⟩
            have b7 := below_trans' b6 b1
            clear b6 b1
            go_wp2_with fail
            refine (tp.out _ (HT.out.below b7) (HB.out.below b7)).mono ?_
            rintro e w8 ⟨rfl, d8⟩
            have b8 := below_trans' b7 (d8.below _)
            clear b7 d8
            go_wp2_with fail
            refine (KTO.out _).mono ?_
            rintro e w9 ⟨rfl, rfl⟩
            go_wp2_with fail
            refine (coded_ev E (tC L) _ (HE.out.below b8) (by omega)).mono ?_
            rintro e wx ⟨rfl, b1⟩
            have b9 := below_trans' b8 b1
            clear b8 b1
            go_wp2_with fail
            go_ret
            exact ⟨rfl, b9⟩
          · have t0 := KTC.out.resolve_left ht
            have t1 : ((tC L : Int) == 0) = false := by rw [beq_eq_false_iff_ne]; omega
            have t2 : (0 : Int) < tC L := by omega
            have t3 : (0 : Int) = 0 := rfl
            have m2 : True := trivial
            have tp := KGT.out
            rw [t0.2.2, bs_nil] at tp
            have tp := Lib.hid tp
            clear t0 ht
            go_enter Tryd.func4, Tryd.ntmps4
            go_wp2_with fail
            refine NB.out.mono ?_
            rintro e w0 ⟨rfl, b0⟩
            go_wp2_with fail
            have PN := put_no E a0 w0 (by omega) (HB.out.below b0)
            rw [bs_nil] at PN
            refine PN.mono ?_
            rintro e w1 ⟨rfl, b1⟩
            have b2 := below_trans' b0 b1
            clear b0 b1 PN
            go_wp2_with fail
            refine (coded_ev E 2 _ (HE.out.below b2) (by omega)).mono ?_
            rintro e w2 ⟨rfl, b1⟩
            have b3 := below_trans' b2 b1
            clear b2 b1
            go_wp2_with fail
            have PT := KPT.out w2 (HB.out.below b3)
            rw [KP.out.1, KP.out.2, bs_nil] at PT
            refine PT.mono ?_
            rintro e w3 ⟨rfl, b1⟩
            have b4 := below_trans' b3 b1
            clear b3 b1 PT
            go_wp2_with fail
            refine (coded_ev E 2 _ (HE.out.below b4) (by omega)).mono ?_
            rintro e w4 ⟨rfl, b1⟩
            have b5 := below_trans' b4 b1
            clear b4 b1
            go_wp2_with fail
            refine (gp.out _ (HT.out.below b5) (HB.out.below b5)).mono ?_
            rintro e w5 ⟨rfl, d5⟩
            have b6 := below_trans' b5 (d5.below _)
            clear b5 d5
            go_wp2_with fail
            refine (KNO.out _).mono ?_
            rintro e w6 ⟨rfl, rfl⟩
            go_wp2_with fail
            refine (coded_ev E (gC L) _ (HE.out.below b6) (by omega)).mono ?_
            rintro e w7 ⟨rfl, b1⟩
            have b7 := below_trans' b6 b1
            clear b6 b1
            go_wp2_with fail
            refine (tp.out _ (HT.out.below b7) (HB.out.below b7)).mono ?_
            rintro e w8 ⟨rfl, d8⟩
            have b8 := below_trans' b7 (d8.below _)
            clear b7 d8
            go_wp2_with fail
            refine (KTO.out _).mono ?_
            rintro e w9 ⟨rfl, rfl⟩
            go_wp2_with fail
            refine (coded_ev E (tC L) _ (HE.out.below b8) (by omega)).mono ?_
            rintro e wx ⟨rfl, b1⟩
            have b9 := below_trans' b8 b1
            clear b8 b1
            go_wp2_with fail
            go_ret
            exact ⟨rfl, b9⟩
  · have hI1 : (300 : Int) < a1.size := by omega
    have hI2 : ((a1.size : Int) == 20001) = false := by rw [beq_eq_false_iff_ne]; omega
    clear hsz
    go_enter Tryd.func4, Tryd.ntmps4
    go_wp2_with fail
    refine NB.out.mono ?_
    rintro e w0 ⟨rfl, b0⟩
    go_wp2_with fail
    go_ret
    exact ⟨rfl, b0⟩
end Go.Proofs.YtphigoclkkgpoaaDoor
