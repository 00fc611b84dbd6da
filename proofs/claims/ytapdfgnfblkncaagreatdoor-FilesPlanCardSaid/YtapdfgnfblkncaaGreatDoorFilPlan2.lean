/- Contract of files.Plan. -/
import Derived.Test.YtapdfgnfblkncaaGreatDoorFilPlan
namespace Go.Proofs.YtapdfgnfblkncaaGreatDoor
open Go.RowKit
set_option linter.unusedVariables false

set_option maxRecDepth 100000 in
set_option maxHeartbeats 6400000 in
theorem flplan_no1 (E : Nat → Addr) (a : List PL) (v1 v2 : Value) (w : World) (h1 : SliceIs w v1 3 (lcells a)) (d1 : ∀ x ∈ a, x.n.length ≤ maxLen) (l1 : a.length ≤ 1000000000) (hB : Has E w 2) (hN : Has E w 5) (hF : Has E w 8) (hO : Has E w 9) (hf : (lnFault a).1 ≠ 0) :
    Calls Tryz.prog 15 #[v1, v2] w fun e w' => ∃ r, e = .returned (.tuple #[.slice none 0 0, r]) ∧ FErr E w' r (lnFault a).1 (lnFault a).2 ∧ Below w.heap.size w w' := by
  have HCH := Lib.hid (fllines_any E a v1 w h1 d1 l1 hB hN hF hO)
  have HOK := Lib.hid hf
  clear h1 hB hN hF hO hf
  go_enter Tryz.func15, Tryz.ntmps15
  go_wp2_with fail
  refine HCH.out.mono ?_
  rintro e w1 ⟨r, rfl, fe, b1⟩
  have FE := Lib.hid fe
  obtain ⟨t, p, rfl⟩ := fe.some HOK.out
  have HBB := Lib.hid b1
  clear fe b1 HCH
  go_wp2_with fail
  go_ret2
  exact ⟨_, rfl, FE.out, HBB.out⟩
set_option maxRecDepth 100000 in
set_option maxHeartbeats 6400000 in
theorem flplan_no2 (E : Nat → Addr) (a t : List PL) (v1 v2 : Value) (w : World) (h1 : SliceIs w v1 3 (lcells a)) (h2 : SliceIs w v2 3 (lcells t)) (d1 : ∀ x ∈ a, x.n.length ≤ maxLen) (d2 : ∀ x ∈ t, x.n.length ≤ maxLen) (l1 : a.length ≤ 1000000000) (l2 : t.length ≤ 1000000000) (hB : Has E w 2) (hN : Has E w 5) (hF : Has E w 8) (hO : Has E w 9) (ha : (lnFault a).1 = 0) (hf : (lnFault t).1 ≠ 0) :
    Calls Tryz.prog 15 #[v1, v2] w fun e w' => ∃ r, e = .returned (.tuple #[.slice none 0 0, r]) ∧ FErr E w' r (lnFault t).1 (lnFault t).2 ∧ Below w.heap.size w w' := by
  have CH := fllines_any E a v1 w h1 d1 l1 hB hN hF hO
  rw [ha] at CH
  have HCH := Lib.hid CH
  have HC2 := Lib.hid (fun (w' : World) (b : Below w.heap.size w w') => fllines_any E t v2 w' (h2.below b) d2 l2 (hB.below b) (hN.below b) (hF.below b) (hO.below b))
  have HOK := Lib.hid hf
  clear h1 h2 hB hN hF hO hf CH
  go_enter Tryz.func15, Tryz.ntmps15
  go_wp2_with fail
  refine HCH.out.mono ?_
  rintro e w1 ⟨r, rfl, fe, b1⟩
  obtain rfl := fe.zero
  clear fe HCH
  go_wp2_with fail
  refine (HC2.out _ b1).mono ?_
  rintro e w2 ⟨r, rfl, fe, b2⟩
  have FE := Lib.hid fe
  obtain ⟨t, p, rfl⟩ := fe.some HOK.out
  have HBB := Lib.hid (below_trans' b1 b2)
  clear fe b1 b2 HC2
  go_wp2_with fail
  go_ret2
  exact ⟨_, rfl, FE.out, HBB.out⟩
set_option maxRecDepth 100000 in
set_option maxHeartbeats 6400000 in
theorem flplan_yes (E : Nat → Addr) (a t : List PL) (v1 v2 : Value) (w : World) (h1 : SliceIs w v1 3 (lcells a)) (h2 : SliceIs w v2 3 (lcells t)) (ha : LWF a) (ht : LWF t) (hB : Has E w 2) (hN : Has E w 5) (hF : Has E w 8) (hO : Has E w 9) :
    Calls Tryz.prog 15 #[v1, v2] w fun e w' => ∃ r, e = .returned (.tuple #[r, .nilIface]) ∧ w'.ownsRow w.heap.size 49 2 r (planL a t).length (scells (planL a t)) ∧ Below w.heap.size w w' := by
  have hfa := ha.few
  have hft := ht.few
  have hna : ∀ x ∈ a, x.n.length ≤ maxLen := fun x hx => by have := ((nameB_iff _).1 (ha.each x hx).1).2.1; unfold maxLen; omega
  have hnt : ∀ x ∈ t, x.n.length ≤ maxLen := fun x hx => by have := ((nameB_iff _).1 (ht.each x hx).1).2.1; unfold maxLen; omega
  have CH := fllines_any E a v1 w h1 hna (by omega) hB hN hF hO
  rw [(lnFault_wf a).2 ha] at CH
  have HCH := Lib.hid CH
  have C2 := fun (w' : World) (b : Below w.heap.size w w') => fllines_any E t v2 w' (h2.below b) hnt (by omega) (hB.below b) (hN.below b) (hF.below b) (hO.below b)
  rw [(lnFault_wf t).2 ht] at C2
  have HC2 := Lib.hid C2
  have HPL := Lib.hid (planL_le a t)
  have H1 := Lib.hid h1
  have H2 := Lib.hid h2
  obtain ⟨i0, hi, hz0, hz1, hz2⟩ := info_parts infoStep
  obtain ⟨sa, na, ca, rfl, qa⟩ := h1.get
  obtain ⟨st, nt, ct, rfl, qt⟩ := h2.get
  clear qa qt
  clear h1 h2 hB hN hF hO CH C2 hna hnt
  go_enter Tryz.func15, Tryz.ntmps15
  go_wp2_with fail
  refine HCH.out.mono ?_
  rintro e w1 ⟨r, rfl, fe, b1⟩
  obtain rfl := fe.zero
  clear fe HCH
  go_wp2_with fail
  refine (HC2.out _ b1).mono ?_
  rintro e w2 ⟨r, rfl, fe, b2⟩
  obtain rfl := fe.zero
  have B2 := Lib.hid (below_trans' b1 b2)
  clear fe b1 b2 HC2
  go_wp2_with fail
  go_loopw [0, 1, 8, 9, 10, 11] (fun f o r _ _ _ wr => ∃ (A T : List PL) (D : List PS) (s1 s2 : Option Addr) (n1 c1 n2 c2 : Nat), f = .slice s1 n1 c1 ∧ o = .slice s2 n2 c2 ∧ SliceIs w (.slice s1 n1 c1) 3 (lcells A) ∧ SliceIs w (.slice s2 n2 c2) 3 (lcells T) ∧ A.length ≤ 20 ∧ T.length ≤ 20 ∧ D ++ planL A T = planL a t ∧ wr.ownsRow w.heap.size 49 2 r D.length (scells D) ∧ Below w.heap.size w wr) (fun f o _ _ _ _ _ => lenOf f + lenOf o)
  case atStart => exact ⟨a, t, [], sa, st, na, ca, nt, ct, rfl, rfl, H1.out, H2.out, by omega, by omega, rfl, by rw [scells_nil]; exact World.ownsRow_nil _ _ _ _, B2.out⟩
  case round =>
    obtain ⟨A, T, D, s1, s2, n1, c1, n2, c2, rfl, rfl, q1, q2, u1, u2, hinv, hown, bel⟩ := hrel
    obtain ⟨m1, m2, m3⟩ := lines_len q1
    obtain ⟨p1, p2, p3⟩ := lines_len q2
    unfold maxLen at m3 p3
    have hDl : D.length + (planL A T).length = (planL a t).length := by rw [← hinv, List.length_append]
    have hPl := HPL.out
    have BW := Lib.hid bel
    have HO := Lib.hid hown
    have Q1 := Lib.hid q1
    have Q2 := Lib.hid q2
    obtain ⟨va, vc, rfl⟩ := owns_slice hown
    clear bel hown q1 q2
    by_cases hn : A = [] ∧ T = []
    · obtain ⟨rfl, rfl⟩ := hn
      rw [List.length_nil] at m1 p1
      subst m1 p1
      clear u1 u2 hPl hDl
      have hD : D = planL a t := by rw [← hinv, planL_none, List.append_nil]
      subst hD
      go_wp2_with fail
      go_ret2
      exact ⟨_, rfl, HO.out, BW.out⟩
    · have hST := planL_step hn
      obtain ⟨z1, z2, z3⟩ := stepL_bd A T
      have z3 := z3 hn
      have ST := Lib.hid (fun (w' : World) h1 h2 => flstep_any A T (.slice s1 n1 c1) (.slice s2 n2 c2) w' h1 h2 hn)
      obtain ⟨sH, nH, cH, rH, g1⟩ := lines_head Q1.out (stepL A T).2.1 (by omega)
      obtain ⟨sI, nI, cI, rI, g2⟩ := lines_head Q2.out (stepL A T).2.2 (by omega)
      obtain ⟨m1', _, _⟩ := lines_len g1
      obtain ⟨p1', _, _⟩ := lines_len g2
      rw [List.length_drop] at m1' p1'
      subst m1 p1 m1' p1'
      have hsum : (0 : Int) < (A.length : Int) + T.length := by omega
      generalize stepL A T = s at *
      obtain ⟨x, k1, k2⟩ := s
      obtain ⟨xk, xn⟩ := x
      simp only [PS.val_is] at ST hST rH rI g1 g2 z1 z2 z3
      have Y := Lib.hid (show (D ++ [⟨xk, xn⟩]) ++ planL (A.drop k1) (T.drop k2) = planL a t by rw [List.append_assoc, ← hST]; exact hinv)
      have G1 := Lib.hid g1
      have G2 := Lib.hid g2
      have hst : (planL A T).length ≥ 1 := by rw [hST]; simp
      have HN1 : Hid (D.length + 1 ≤ maxLen) := by show _ ≤ _; unfold maxLen; omega
      have HN2 : Hid ((D.length + 1) * 32 ≤ 140737488355328) := by show _ ≤ _; omega
      clear hinv hST g1 g2 hst hDl hPl
      go_wp2_with fail
      refine (ST.out _ (Q1.out.below BW.out) (Q2.out.below BW.out)).mono ?_
      rintro e w3 ⟨rfl, b3⟩
      have HO3 := Lib.hid (owns_below HO.out b3)
      have B3 := Lib.hid (below_trans' BW.out b3)
      have BX := Lib.hid b3
      clear b3
      have NEWB : Hid (((w3.alloc (.cells #[.string (bs xk), .string (bs xn)] 49)).alloc (.cells #[.string (bs xk), .string (bs xn)] 49)).heap[w3.heap.size + 1]? = some (.cells #[.string (bs xk), .string (bs xn)] 49 (0, 0))) := by
        have h := heap_alloc_new (w3.alloc (.cells #[.string (bs xk), .string (bs xn)] 49)) (.cells #[.string (bs xk), .string (bs xn)] 49)
        have e : (w3.alloc (.cells #[.string (bs xk), .string (bs xn)] 49)).heap.size = w3.heap.size + 1 := by simp
        rw [e] at h; exact h
      go_wp2_with (at_builtin; refine wpList_append_is rfl (.tmp 35) (.tmp 37) 42 rfl w.heap.size 49 i0 _ 2 32 Tryz.underlying42 hi hz0 hz1 hz2 rfl (by decide) _ D.length _ rfl ((HO3.out.alloc _).alloc _) _ 1 [.string (bs xk), .string (bs xn)] rfl (slice_oneS NEWB.out) rfl (fun u hu => by simp at hu; rcases hu with rfl | rfl <;> rfl) HN1.out HN2.out (by have := B3.out.size; simp; omega) ?_; intro v' w5 hown5 hgrow _; have HO5 := Lib.hid hown5; have B5 := Lib.hid (((B3.out.alloc B3.out.size _).alloc (B3.out.alloc B3.out.size _).size _).grown hgrow (by have := B3.out.size; simp; omega) (fun j hj => (HO3.out.lt j hj).1)); clear hown5 hgrow)
      go_region_law (fail)
      all_goals
        simp [go_sem, Act.put]
        go_wp2_with fail
        go_roundw
        case rel => exact ⟨A.drop k1, T.drop k2, D ++ [⟨xk, xn⟩], _, _, _, _, _, _, rfl, rfl, G1.out, G2.out, by rw [List.length_drop]; omega, by rw [List.length_drop]; omega, Y.out, by rw [scells_append, scells_one, List.length_append]; exact HO5.out, below_drewN B5.out 1⟩
        case measure => simp [lenOf]; omega
end Go.Proofs.YtapdfgnfblkncaaGreatDoor
