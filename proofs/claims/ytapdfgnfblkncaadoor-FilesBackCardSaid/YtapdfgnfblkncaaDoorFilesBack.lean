/- FilesBack: a list is read as it was written; a plan sends what is not alike, keeps what is, and drops the rest. -/
import Derived.Test.YtapdfgnfblkncaaDoorFilBackP
import Derived.Test.YtapdfgnfblkncaaDoorFilPlan2
import Derived.Test.YtapdfgnfblkncaaDoorFiled
import Derived.Test.YtapdfgnfblkncaaDoorRefFilGet
import Derived.Test.YtapdfgnfblkncaaDoorArgFil
import Derived.Test.YtapdfgnfblkncaaDoorLaid
namespace Go.Proofs.YtapdfgnfblkncaaDoor
open Go.RowKit
set_option linter.unusedVariables false

theorem longFB_no {l : List PF} {most : Nat} (h : longFB l most = false) : l.length ≤ 25 ∧ ∀ f ∈ l, f.n.length ≤ 30 ∧ (f.d.length ≤ most ∨ f.d.length = 4001) := by
  unfold longFB at h
  rw [Bool.or_eq_false_iff] at h
  obtain ⟨h1, h2⟩ := h
  rw [List.any_eq_false] at h2
  refine ⟨by simpa using h1, fun f hf => ?_⟩
  have := h2 f hf
  unfold longF at this
  simp at this
  omega
theorem longN_bd (l : List PF) (most : Nat) : (longN l most = 0 ∧ longFB l most = false) ∨ (longN l most = 1 ∧ longFB l most = true) := by
  cases h : longFB l most with
  | true => exact .inr ⟨longN_t h, rfl⟩
  | false => exact .inl ⟨longN_f h, rfl⟩
theorem fllist_some (E : Nat → Addr) (l : List PF) (v : Value) (w : World) (hl : SliceIs w v 2 (fcells l)) (hd : FOk l) (hlen : l.length ≤ 1000000) (hB : Has E w 2) (hN : Has E w 5) (hF : Has E w 8) (hO : Has E w 9) :
    Calls Tryd.prog 28 #[v] w fun e w' => ∃ r er, e = .returned (.tuple #[r, er]) ∧ Below w.heap.size w w' := by
  by_cases h : (flFault l).1 = 0
  · refine (fllist_yes E l v w hl hd hB hN hF hO ((flFault_wf l).1 h)).mono ?_
    rintro e w' ⟨r, rfl, _, b⟩
    exact ⟨_, _, rfl, b⟩
  · refine (fllist_no E l v w hl hd hlen hB hN hF hO h).mono ?_
    rintro e w' ⟨r, rfl, _, b⟩
    exact ⟨_, _, rfl, b⟩

set_option maxRecDepth 100000 in
set_option maxHeartbeats 12800000 in
theorem filesBack_walk (E : Nat → Addr) (s0 : Option Addr) (n0 c0 : Nat) (a0 : List PF) (s1 : Option Addr) (n1 c1 : Nat) (a1 : List PF) (w : World) (hl0 : SliceIs w (.slice s0 n0 c0) PF.cells (a0.flatMap PF.vals) ∧ ∀ x ∈ a0, x.ok) (hl1 : SliceIs w (.slice s1 n1 c1) PF.cells (a1.flatMap PF.vals) ∧ ∀ x ∈ a1, x.ok) (h1 : ∀ c ∈ [1, 2, 5, 8, 9], Has E w c ∧ Sent w (E c)) (_ : ∀ c ∈ [1, 2, 5, 8, 9], ∀ c' ∈ [1, 2, 5, 8, 9], c ≠ c' → E c ≠ E c') :
    Calls Tryd.prog 5 #[.slice s0 n0 c0, .slice s1 n1 c1] w fun e w' => e = .returned (.bool true) ∧ Below w.heap.size w w' := by
  obtain ⟨hl, hok⟩ := hl0
  obtain ⟨hm, hom⟩ := hl1
  rw [PF.vals_is] at hl hm
  have hl : SliceIs w (.slice s0 n0 c0) 2 (fcells a0) := hl
  have hm : SliceIs w (.slice s1 n1 c1) 2 (fcells a1) := hm
  have HOK := Lib.hid (show FOk a0 from hok)
  have HOM := Lib.hid (show FOk a1 from hom)
  have H1 := Lib.hid (h1 1 (by simp)).1
  have H2 := Lib.hid (h1 2 (by simp)).1
  have H5 := Lib.hid (h1 5 (by simp)).1
  have H8 := Lib.hid (h1 8 (by simp)).1
  have H9 := Lib.hid (h1 9 (by simp)).1
  have hlen : n0 = a0.length ∧ c0 ≤ maxLen ∧ n0 ≤ c0 := by
    obtain ⟨s', n', c', e, e2, e3, e4, _⟩ := hl.get
    cases e
    rw [fcells_len] at e2; exact ⟨by omega, e4, e3⟩
  have hlen1 : n1 = a1.length ∧ c1 ≤ maxLen ∧ n1 ≤ c1 := by
    obtain ⟨s', n', c', e, e2, e3, e4, _⟩ := hm.get
    cases e
    rw [fcells_len] at e2; exact ⟨by omega, e4, e3⟩
  obtain ⟨rfl, cc0, cc1⟩ := hlen
  obtain ⟨rfl, cd0, cd1⟩ := hlen1
  unfold maxLen at cc0 cd0
  have HL := Lib.hid hl
  have HM := Lib.hid hm
  have FO := Lib.hid (fun (w' : World) (b : Below w.heap.size w w') => filed_ok E w' (H2.out.below b) (H5.out.below b) (H8.out.below b) (H9.out.below b))
  have LO := Lib.hid (fun (w' : World) (b : Below w.heap.size w w') => longFiles_any a0 _ 100 w' (HL.out.below b) (by omega) HOK.out)
  have LM := Lib.hid (fun (w' : World) (b : Below w.heap.size w w') => longFiles_any a1 _ 100 w' (HM.out.below b) (by omega) HOM.out)
  have hx := longN_bd a0 100
  have hy := longN_bd a1 100
  generalize longN a0 100 = X at *
  generalize longN a1 100 = Y at *
  clear hl hm hok hom h1
  by_cases hXY : 0 < X + Y
  · have hX : X = 0 ∨ X = 1 := by omega
    have hY : Y = 0 ∨ Y = 1 := by omega
    clear hx hy
    go_enter Tryd.func5, Tryd.ntmps5
    go_wp2_with fail
    refine (FO.out _ (Below.refl _ _)).mono ?_
    rintro e w1 ⟨rfl, b1⟩
    go_wp2_with fail
    refine (LO.out _ b1).mono ?_
    rintro e w2 ⟨rfl, b2⟩
    have b02 := below_trans' b1 b2
    go_wp2_with fail
    refine (LM.out _ b02).mono ?_
    rintro e w3 ⟨rfl, b3⟩
    have b03 := below_trans' b02 b3
    clear b1 b2 b02 b3 FO LO LM
    rcases hX with rfl | rfl <;> rcases hY with rfl | rfl
    · exact absurd hXY (by decide)
    all_goals
      go_wp2_with fail
      go_ret
      exact ⟨rfl, b03⟩
  have hx : X = 0 ∧ longFB a0 100 = false := by
    rcases hx with h | ⟨h, _⟩
    · exact h
    · rcases hy with ⟨h', _⟩ | ⟨h', _⟩ <;> omega
  have hy : Y = 0 ∧ longFB a1 100 = false := by
    rcases hy with h | ⟨h, _⟩
    · exact h
    · omega
  obtain ⟨rfl, hLF⟩ := hx
  obtain ⟨rfl, hLG⟩ := hy
  obtain ⟨h25, hea⟩ := longFB_no hLF
  obtain ⟨h26, heb⟩ := longFB_no hLG
  clear hXY hLF hLG
  have OW := Lib.hid (fun (w' : World) (b : Below w.heap.size w w') => ownFiles_any a0 _ w' (HL.out.below b) (by omega))
  have OM := Lib.hid (fun (w' : World) (b : Below w.heap.size w w') => ownFiles_any a1 _ w' (HM.out.below b) (by omega))
  have LS := Lib.hid (fun (v : Value) (w' : World) (b : Below w.heap.size w w') (h : SliceIs w' v 2 (fcells a1)) => fllist_some E a1 v w' h HOM.out (by omega) (H2.out.below b) (H5.out.below b) (H8.out.below b) (H9.out.below b))
  have LN := Lib.hid (fun (v : Value) (w' : World) (b : Below w.heap.size w w') (h : SliceIs w' v 2 (fcells a0)) (hf : (flFault a0).1 ≠ 0) => fllist_no E a0 v w' h HOK.out (by omega) (H2.out.below b) (H5.out.below b) (H8.out.below b) (H9.out.below b) hf)
  have LNM := Lib.hid (fun (v : Value) (w' : World) (b : Below w.heap.size w w') (h : SliceIs w' v 2 (fcells a1)) (hf : (flFault a1).1 ≠ 0) => fllist_no E a1 v w' h HOM.out (by omega) (H2.out.below b) (H5.out.below b) (H8.out.below b) (H9.out.below b) hf)
  have LY := Lib.hid (fun (v : Value) (w' : World) (b : Below w.heap.size w w') (h : SliceIs w' v 2 (fcells a0)) (hf : (flFault a0).1 = 0) => fllist_yes E a0 v w' h HOK.out (H2.out.below b) (H5.out.below b) (H8.out.below b) (H9.out.below b) ((flFault_wf a0).1 hf))
  have LYM := Lib.hid (fun (v : Value) (w' : World) (b : Below w.heap.size w w') (h : SliceIs w' v 2 (fcells a1)) (hf : (flFault a1).1 = 0) => fllist_yes E a1 v w' h HOM.out (H2.out.below b) (H5.out.below b) (H8.out.below b) (H9.out.below b) ((flFault_wf a1).1 hf))
  have W1 := Lib.hid (flFault_wf a0)
  have W2 := Lib.hid (flFault_wf a1)
  generalize hq0 : flFault a0 = q0 at *
  generalize hq1 : flFault a1 = q1 at *
  go_enter Tryd.func5, Tryd.ntmps5
  go_wp2_with fail
  refine (FO.out _ (Below.refl _ _)).mono ?_
  rintro e w1 ⟨rfl, b1⟩
  go_wp2_with fail
  refine (LO.out _ b1).mono ?_
  rintro e w2 ⟨rfl, b2⟩
  have b02 := below_trans' b1 b2
  go_wp2_with fail
  refine (LM.out _ b02).mono ?_
  rintro e w3 ⟨rfl, b3⟩
  have b03 := below_trans' b02 b3
  clear b1 b2 b02 b3 FO LO LM
  go_wp2_with fail
  refine (OW.out _ b03).mono ?_
  rintro e w4 ⟨r4, rfl, o4, b4⟩
  have b04 := below_trans' b03 b4
  have S4 := Lib.hid (SliceIs.ownedK o4)
  clear b03 b4 o4 OW
  by_cases hf0 : q0.1 = 0
  case neg =>
    go_wp2_with fail
    refine (LN.out _ _ b04 S4.out hf0).mono ?_
    rintro e w5 ⟨r5, rfl, fe, b5⟩
    have b05 := below_trans' b04 b5
    have FE := Lib.hid fe
    obtain ⟨t5, p5, rfl⟩ := fe.some hf0
    clear b04 b5 fe
    go_wp2_with fail
    refine (OM.out _ b05).mono ?_
    rintro e w6 ⟨r6, rfl, o6, b6⟩
    have b06 := below_trans' b05 b6
    have S6 := Lib.hid (SliceIs.ownedK o6)
    clear b05 b6 o6
    go_wp2_with fail
    refine (LS.out _ _ b06 S6.out).mono ?_
    rintro e w7 ⟨r7, e7, rfl, b7⟩
    have b07 := below_trans' b06 b7
    clear b06 b7
    go_wp2_with fail
    go_ret
    exact ⟨rfl, b07⟩
  go_wp2_with fail
  refine (LY.out _ _ b04 S4.out hf0).mono ?_
  rintro e w5 ⟨r5, rfl, o5, b5⟩
  have b05 := below_trans' b04 b5
  have S5 := Lib.hid (SliceIs.ownedK o5)
  obtain ⟨va, vc, rfl⟩ := owns_slice o5
  have xc := S5.out.get
  clear b04 b5 o5 S4 LY LN LS
  go_wp2_with fail
  refine (OM.out _ b05).mono ?_
  rintro e w6 ⟨r6, rfl, o6, b6⟩
  have b06 := below_trans' b05 b6
  have S6 := Lib.hid (SliceIs.ownedK o6)
  have S56 := Lib.hid (S5.out.below b6)
  clear b05 b6 o6 OM S5
  by_cases hf1 : q1.1 = 0
  case neg =>
    go_wp2_with fail
    refine (LNM.out _ _ b06 S6.out hf1).mono ?_
    rintro e w7 ⟨r7, rfl, fe, b7⟩
    have b07 := below_trans' b06 b7
    have FE := Lib.hid fe
    obtain ⟨t7, p7, rfl⟩ := fe.some hf1
    clear b06 b7 fe
    go_wp2_with fail
    go_ret
    exact ⟨rfl, b07⟩
  have WA := Lib.hid (W1.out.1 hf0)
  have WB := Lib.hid (W2.out.1 hf1)
  go_wp2_with fail
  refine (LYM.out _ _ b06 S6.out hf1).mono ?_
  rintro e w7 ⟨r7, rfl, o7, b7⟩
  have B07 := Lib.hid (below_trans' b06 b7)
  have S7 := Lib.hid (SliceIs.ownedK o7)
  have S57 := Lib.hid (S56.out.below b7)
  obtain ⟨vb, vd, rfl⟩ := owns_slice o7
  clear b06 b7 o7 S6 S56 LYM LNM hf0 hf1 W1 W2 hq0 hq1 hea heb xc
  have hlen0 := WA.out.few
  have hlen1 := WB.out.few
  have h1l := Lib.hid (show (a0.map PF.line).length = a0.length from List.length_map ..)
  have h2l := Lib.hid (show (a1.map PF.line).length = a1.length from List.length_map ..)
  have TX := Lib.hid (fltext_yes E (a0.map PF.line) _ w7 S57.out (lines_sum a0) (H2.out.below B07.out) (H5.out.below B07.out) (H8.out.below B07.out) (H9.out.below B07.out) WA.out.lines)
  go_wp2_with fail
  refine TX.out.mono ?_
  rintro e w8 ⟨rfl, b8⟩
  have B08 := Lib.hid (below_trans' B07.out b8)
  have S58 := Lib.hid (S57.out.below b8)
  have S78 := Lib.hid (S7.out.below b8)
  clear b8 B07 S57 S7 TX
  have hfb : (bs (flText (a0.map PF.line))).size ≤ 100000000 := by
    have := num_len (a0.map PF.line).length
    have h2 := lnText_len (a0.map PF.line) (fun x hx => ((nameB_iff _).1 (WA.out.lines.each x hx).1).2.1)
    rw [h1l.out] at h2
    rw [bs_size, flText_is, List.length_append]; omega
  have RD := flread_any E (bs (flText (a0.map PF.line))) w8 hfb (H1.out.below B08.out) (H2.out.below B08.out) (H5.out.below B08.out) (H8.out.below B08.out) (H9.out.below B08.out)
  simp only [bs_list, readLn_text _ WA.out.lines (lines_sum a0), ev_zero] at RD
  rw [h1l.out] at RD
  have HRD := Lib.hid RD
  clear RD hfb
  go_wp2_with fail
  refine HRD.out.mono ?_
  rintro e w9 ⟨r9, rfl, o9, b9⟩
  have B09 := Lib.hid (below_trans' B08.out b9)
  have S59 := Lib.hid (S58.out.below b9)
  have S79 := Lib.hid (S78.out.below b9)
  have S9 := Lib.hid (SliceIs.ownedK o9)
  obtain ⟨ve, vf, rfl⟩ := owns_slice o9
  have m5 := (lines_len S59.out).2
  have m9 := (lines_len S9.out).2
  unfold maxLen at m5 m9
  clear b9 B08 S58 S78 o9 HRD
  have PLN := Lib.hid (fun (w' : World) (b : Below w9.heap.size w9 w') => flplan_yes E (a0.map PF.line) (a1.map PF.line) _ _ w' (S59.out.below b) (S79.out.below b) WA.out.lines WB.out.lines (H2.out.below (below_trans' B09.out b)) (H5.out.below (below_trans' B09.out b)) (H8.out.below (below_trans' B09.out b)) (H9.out.below (below_trans' B09.out b)))
  have hpl := planL_le (a0.map PF.line) (a1.map PF.line)
  rw [h1l.out, h2l.out] at hpl
  have PB := Lib.hid (back_law WA.out WB.out)
  have PA := Lib.hid (back_all WA.out WB.out)
  have PS' := Lib.hid (back_sorted WA.out WB.out)
  generalize planL (a0.map PF.line) (a1.map PF.line) = p at *
  go_wp2_with fail
  go_loopw [14] (fun i wr => ∃ k : Nat, i = .int .i64 k ∧ k ≤ a0.length ∧ Below w9.heap.size w9 wr) (fun i _ => a0.length - (intOf i).toNat)
  case atStart => exact ⟨0, rfl, by omega, Below.refl _ _⟩
  case round =>
    obtain ⟨k, rfl, hk, bel⟩ := hrel
    by_cases hlt : k < a0.length
    · have hltI : (k : Int) < a0.length := by omega
      have hltM : k < (a0.map PF.line).length := by rw [h1l.out]; exact hlt
      obtain ⟨s', n', c', q, _, _, _, g1⟩ := (S9.out.below bel).get
      cases q
      obtain ⟨x0, x1, x2⟩ := lcells_get (a0.map PF.line) k hltM
      obtain ⟨ad1, rfl, d0⟩ := g1 _ _ x0
      obtain ⟨ad1', q, d1⟩ := g1 _ _ x1
      cases q
      obtain ⟨ad1', q, d2⟩ := g1 _ _ x2
      cases q
      clear g1
      obtain ⟨s', n', c', q, _, _, _, g1⟩ := (S59.out.below bel).get
      cases q
      obtain ⟨ad2, rfl, e0⟩ := g1 _ _ x0
      obtain ⟨ad2', q, e1⟩ := g1 _ _ x1
      cases q
      obtain ⟨ad2', q, e2⟩ := g1 _ _ x2
      cases q
      clear g1 x0 x1 x2
      have y1 : (0 : Int) ≤ k := by omega
      have y2 : (k : Int).toNat = k := by omega
      have d1 := cell_at d1
      have d2 := cell_at d2
      have e1 := cell_at e1
      have e2 := cell_at e2
      generalize (a0.map PF.line)[k]'hltM = x at *
      have EQ := lnb_not x
      have KK := Lib.hid (show k + 1 ≤ a0.length from hlt)
      have BW := Lib.hid bel
      clear bel
      go_wp2_with fail
      go_quiet (fail)
      go_wp2_with fail
      go_roundw
      case rel => exact ⟨k + 1, by go_num, KK.out, below_drewN BW.out _⟩
      case measure => simp [intOf]; omega
    · have hltI : ¬ (k : Int) < a0.length := by omega
      have BW := Lib.hid bel
      clear bel hlt hk
      go_wp2_with fail
      refine (PLN.out _ BW.out).mono ?_
      rintro e wp ⟨rp, rfl, op, bp⟩
      have SP := Lib.hid (SliceIs.ownedK op)
      have BP := Lib.hid (below_trans' (below_trans' B09.out BW.out) bp)
      obtain ⟨vp, vq, rfl⟩ := owns_slice op
      have mp := (steps_len SP.out).2
      unfold maxLen at mp
      clear op bp BW PLN S9 S59 S79 B09
      have G0 := Lib.hid (fun (n : List UInt8) (w' : World) (b : Below wp.heap.size wp w') => flget_any a0 _ n w' (HL.out.below (below_trans' BP.out b)))
      have G1 := Lib.hid (fun (n : List UInt8) (w' : World) (b : Below wp.heap.size wp w') => flget_any a1 _ n w' (HM.out.below (below_trans' BP.out b)))
      have SL := Lib.hid (HL.out.below BP.out)
      go_wp2_with fail
      go_loopw [16, 17, 18, 19, 20] (fun i _ _ _ _ wr => ∃ k : Nat, i = .int .i64 k ∧ k ≤ p.length ∧ Below wp.heap.size wp wr) (fun i _ _ _ _ _ => p.length - (intOf i).toNat)
      case atStart => exact ⟨0, rfl, by omega, Below.refl _ _⟩
      case round =>
        obtain ⟨k, rfl, hk, bel⟩ := hrel
        by_cases hlt : k < p.length
        · have hltI : (k : Int) < p.length := by omega
          obtain ⟨s', n', c', q, _, _, _, g1⟩ := (SP.out.below bel).get
          cases q
          obtain ⟨x0, x1⟩ := scells_get p k hlt
          obtain ⟨ad, rfl, d0⟩ := g1 _ _ x0
          obtain ⟨ad', q, d1⟩ := g1 _ _ x1
          cases q
          have d1 := cell_at d1
          have y1 : (0 : Int) ≤ k := by omega
          have y2 : (k : Int).toNat = k := by omega
          have hB := PB.out _ (List.getElem_mem hlt)
          have KK := Lib.hid (show k + 1 ≤ p.length from hlt)
          have BW := Lib.hid bel
          have PG := Lib.hid (fun h0 => pair_get PS'.out (i := k) h0 hlt)
          have GP := Lib.hid g1
          have CE := Lib.hid (fun w' b => step_cells (w := w') (SP.out.below b) hlt)
          have STEP : ∀ (v : Prop), v → v := fun _ h => h
          generalize hx : p[k]'hlt = x at d0 d1 hB PG CE
          clear x0 x1 g1 hx STEP
          obtain ⟨K, n⟩ := x
          simp only [BackOK] at hB
          simp only [] at d0 d1 PG CE
          have GU := Lib.hid (fun (w' : World) (b : Below wp.heap.size wp w') => G0.out n w' b)
          have GV := Lib.hid (fun (w' : World) (b : Below wp.heap.size wp w') => G1.out n w' b)
          have WAYS : (k = 0 ∨ 0 < k) := by omega
          rcases WAYS with hk0 | hkp
          · have hkI : ¬ (0 : Int) < k := by omega
            have hkD : decide ((0 : Int) < k) = false := by simpa using hkI
            have hkN : ¬ 0 < k := by omega
            have hgt : ∀ w, (binOp .gtr 3 (.int .i64 (k : Int)) (.int .i64 0)).run Tryd.prog w = .ok (.bool false) w := fun w => by rw [show (k : Int) = 0 by omega]; rfl
            clear hk0 PG GP
            go_wp2_with fail
            go_quiet (fail)
            rcases hB with ⟨rfl, u, hu, hv⟩ | ⟨rfl, u, v, hu, hv, huv⟩ | ⟨rfl, hu, v, hv⟩
            · rw [bs_kSend] at d0 CE
              rw [hu] at GU
              cases hg : fgetL a1 n with
              | none =>
                rw [hg] at GV
                simp only [Option.getD_some, Option.isSome_some, Option.getD_none, Option.isSome_none] at GU GV
                clear hu hv hg
                go_wp2_with fail
                refine (GU.out _ (below_drewN BW.out _)).mono ?_
                rintro e wa ⟨rfl, ba⟩
                have bwa := below_trans' (below_drewN BW.out _) ba
                obtain ⟨d0a, d1a⟩ := CE.out wa bwa
                go_wp2_with fail
                refine (GV.out _ bwa).mono ?_
                rintro e wb ⟨rfl, bb⟩
                have bwb := below_trans' bwa bb
                obtain ⟨d0b, d1b⟩ := CE.out wb bwb
                clear ba bb bwa d0a d1a bel
                go_wp2_with fail
                go_roundw
                case rel => exact ⟨k + 1, by go_num, KK.out, bwb⟩
                case measure => simp [intOf]; omega
              | some v =>
                rw [hg] at GV
                simp only [Option.getD_some, Option.isSome_some] at GU GV
                have hne : ((bs u).toList == (bs v).toList) = false := by rw [bs_tl', bs_tl', beq_eq_false_iff_ne]; exact hv v hg
                clear hu hv hg
                go_wp2_with fail
                refine (GU.out _ (below_drewN BW.out _)).mono ?_
                rintro e wa ⟨rfl, ba⟩
                have bwa := below_trans' (below_drewN BW.out _) ba
                obtain ⟨d0a, d1a⟩ := CE.out wa bwa
                go_wp2_with fail
                refine (GV.out _ bwa).mono ?_
                rintro e wb ⟨rfl, bb⟩
                have bwb := below_trans' bwa bb
                obtain ⟨d0b, d1b⟩ := CE.out wb bwb
                clear ba bb bwa d0a d1a bel
                go_wp2_with fail
                go_roundw
                case rel => exact ⟨k + 1, by go_num, KK.out, bwb⟩
                case measure => simp [intOf]; omega
            · rw [bs_kKeep] at d0 CE
              rw [hu] at GU
              rw [hv] at GV
              simp only [Option.getD_some, Option.isSome_some] at GU GV
              have hz1 : (bs u).size = u.length := bs_size _
              have hz2 : (bs v).size = v.length := bs_size _
              have hz3 : ((u.length : Int) != (v.length : Int)) = false := by rw [bne_eq_false_iff_eq]; omega
              clear hu hv huv
              go_wp2_with fail
              refine (GU.out _ (below_drewN BW.out _)).mono ?_
              rintro e wa ⟨rfl, ba⟩
              have bwa := below_trans' (below_drewN BW.out _) ba
              obtain ⟨d0a, d1a⟩ := CE.out wa bwa
              go_wp2_with fail
              refine (GV.out _ bwa).mono ?_
              rintro e wb ⟨rfl, bb⟩
              have bwb := below_trans' bwa bb
              obtain ⟨d0b, d1b⟩ := CE.out wb bwb
              clear ba bb bwa d0a d1a bel
              go_wp2_with fail
              go_roundw
              case rel => exact ⟨k + 1, by go_num, KK.out, bwb⟩
              case measure => simp [intOf]; omega
            · rw [bs_kDrop] at d0 CE
              rw [hu] at GU
              rw [hv] at GV
              simp only [Option.getD_some, Option.isSome_some, Option.getD_none, Option.isSome_none] at GU GV
              clear hu hv
              go_wp2_with fail
              refine (GU.out _ (below_drewN BW.out _)).mono ?_
              rintro e wa ⟨rfl, ba⟩
              have bwa := below_trans' (below_drewN BW.out _) ba
              obtain ⟨d0a, d1a⟩ := CE.out wa bwa
              go_wp2_with fail
              refine (GV.out _ bwa).mono ?_
              rintro e wb ⟨rfl, bb⟩
              have bwb := below_trans' bwa bb
              obtain ⟨d0b, d1b⟩ := CE.out wb bwb
              clear ba bb bwa d0a d1a bel
              go_wp2_with fail
              go_roundw
              case rel => exact ⟨k + 1, by go_num, KK.out, bwb⟩
              case measure => simp [intOf]; omega
          · have hkI : (0 : Int) < k := by omega
            obtain ⟨x0, x1⟩ := scells_get p (k - 1) (by omega)
            obtain ⟨a2, q2, d3⟩ := GP.out _ _ x1
            cases q2
            have d3 := cell_at d3
            have hor := PG.out hkp
            generalize (p[k - 1]'(by omega)).n = la at d3 hor
            have hgt : ∀ w, (binOp .gtr 3 (.int .i64 (k : Int)) (.int .i64 0)).run Tryd.prog w = .ok (.bool true) w := fun w => (show (binOp .gtr 3 (.int .i64 (k : Int)) (.int .i64 0)).run Tryd.prog w = .ok (.bool (decide ((0 : Int) < k))) w from rfl).trans (by rw [decide_eq_true hkI])
            have x3 : ((k : Int) - 1).toNat = k - 1 := by omega
            have x4 : (0 : Int) ≤ (k : Int) - 1 := by omega
            have x5 : (k : Int) - 1 < p.length := by omega
            have hkN : 0 < k := hkp
            have hle : ∀ w, (binOp .leq 9 (.string (bs n)) (.string (bs la))).run Tryd.prog w = .ok (.bool false) w := fun w => by rw [run_leq, hor]; rfl
            clear x0 x1 PG GP hor
            go_wp2_with fail
            go_quiet (fail)
            rcases hB with ⟨rfl, u, hu, hv⟩ | ⟨rfl, u, v, hu, hv, huv⟩ | ⟨rfl, hu, v, hv⟩
            · rw [bs_kSend] at d0 CE
              rw [hu] at GU
              cases hg : fgetL a1 n with
              | none =>
                rw [hg] at GV
                simp only [Option.getD_some, Option.isSome_some, Option.getD_none, Option.isSome_none] at GU GV
                clear hu hv hg
                go_wp2_with fail
                refine (GU.out _ (below_drewN BW.out _)).mono ?_
                rintro e wa ⟨rfl, ba⟩
                have bwa := below_trans' (below_drewN BW.out _) ba
                obtain ⟨d0a, d1a⟩ := CE.out wa bwa
                go_wp2_with fail
                refine (GV.out _ bwa).mono ?_
                rintro e wb ⟨rfl, bb⟩
                have bwb := below_trans' bwa bb
                obtain ⟨d0b, d1b⟩ := CE.out wb bwb
                clear ba bb bwa d0a d1a bel
                go_wp2_with fail
                go_roundw
                case rel => exact ⟨k + 1, by go_num, KK.out, bwb⟩
                case measure => simp [intOf]; omega
              | some v =>
                rw [hg] at GV
                simp only [Option.getD_some, Option.isSome_some] at GU GV
                have hne : ((bs u).toList == (bs v).toList) = false := by rw [bs_tl', bs_tl', beq_eq_false_iff_ne]; exact hv v hg
                clear hu hv hg
                go_wp2_with fail
                refine (GU.out _ (below_drewN BW.out _)).mono ?_
                rintro e wa ⟨rfl, ba⟩
                have bwa := below_trans' (below_drewN BW.out _) ba
                obtain ⟨d0a, d1a⟩ := CE.out wa bwa
                go_wp2_with fail
                refine (GV.out _ bwa).mono ?_
                rintro e wb ⟨rfl, bb⟩
                have bwb := below_trans' bwa bb
                obtain ⟨d0b, d1b⟩ := CE.out wb bwb
                clear ba bb bwa d0a d1a bel
                go_wp2_with fail
                go_roundw
                case rel => exact ⟨k + 1, by go_num, KK.out, bwb⟩
                case measure => simp [intOf]; omega
            · rw [bs_kKeep] at d0 CE
              rw [hu] at GU
              rw [hv] at GV
              simp only [Option.getD_some, Option.isSome_some] at GU GV
              have hz1 : (bs u).size = u.length := bs_size _
              have hz2 : (bs v).size = v.length := bs_size _
              have hz3 : ((u.length : Int) != (v.length : Int)) = false := by rw [bne_eq_false_iff_eq]; omega
              clear hu hv huv
              go_wp2_with fail
              refine (GU.out _ (below_drewN BW.out _)).mono ?_
              rintro e wa ⟨rfl, ba⟩
              have bwa := below_trans' (below_drewN BW.out _) ba
              obtain ⟨d0a, d1a⟩ := CE.out wa bwa
              go_wp2_with fail
              refine (GV.out _ bwa).mono ?_
              rintro e wb ⟨rfl, bb⟩
              have bwb := below_trans' bwa bb
              obtain ⟨d0b, d1b⟩ := CE.out wb bwb
              clear ba bb bwa d0a d1a bel
              go_wp2_with fail
              go_roundw
              case rel => exact ⟨k + 1, by go_num, KK.out, bwb⟩
              case measure => simp [intOf]; omega
            · rw [bs_kDrop] at d0 CE
              rw [hu] at GU
              rw [hv] at GV
              simp only [Option.getD_some, Option.isSome_some, Option.getD_none, Option.isSome_none] at GU GV
              clear hu hv
              go_wp2_with fail
              refine (GU.out _ (below_drewN BW.out _)).mono ?_
              rintro e wa ⟨rfl, ba⟩
              have bwa := below_trans' (below_drewN BW.out _) ba
              obtain ⟨d0a, d1a⟩ := CE.out wa bwa
              go_wp2_with fail
              refine (GV.out _ bwa).mono ?_
              rintro e wb ⟨rfl, bb⟩
              have bwb := below_trans' bwa bb
              obtain ⟨d0b, d1b⟩ := CE.out wb bwb
              clear ba bb bwa d0a d1a bel
              go_wp2_with fail
              go_roundw
              case rel => exact ⟨k + 1, by go_num, KK.out, bwb⟩
              case measure => simp [intOf]; omega
        · have hltI : ¬ (k : Int) < p.length := by omega
          have BW := Lib.hid bel
          clear bel hlt hk
          go_wp2_with fail
          go_loopw [21, 22, 23] (fun i _ _ wr => ∃ k : Nat, i = .int .i64 k ∧ k ≤ a0.length ∧ Below wp.heap.size wp wr) (fun i _ _ _ => a0.length - (intOf i).toNat)
          case atStart => exact ⟨0, rfl, by omega, BW.out⟩
          case round =>
            clear BW
            obtain ⟨k, rfl, hk, bel⟩ := hrel
            by_cases hlt : k < a0.length
            · have hltI : (k : Int) < a0.length := by omega
              have hex := inB_all (PA.out _ (List.getElem_mem hlt))
              have KK := Lib.hid (show k + 1 ≤ a0.length from hlt)
              have BW := Lib.hid bel
              have y1 : (0 : Int) ≤ k := by omega
              have y2 : (k : Int).toNat = k := by omega
              obtain ⟨s', n', c', q, _, _, _, g1⟩ := (SL.out.below bel).get
              cases q
              obtain ⟨ad, rfl, _⟩ := g1 _ _ (fcells_get a0 k hlt).1
              have CF := Lib.hid (fun w' b => file_cells (w := w') (SL.out.below b) hlt)
              generalize a0[k]'hlt = f at hex CF
              clear g1 bel
              go_wp2_with fail
              go_loopw [22, 23] (fun b j wr2 => ∃ m : Nat, j = .int .i64 m ∧ m ≤ p.length ∧ b = .bool (inB p m f.n) ∧ Below wp.heap.size wp wr2) (fun _ j _ => p.length - (intOf j).toNat)
              case atStart => exact ⟨0, rfl, by omega, by rw [inB_zero], BW.out⟩
              case round =>
                clear BW
                obtain ⟨m, rfl, hm, rfl, bel⟩ := hrel
                by_cases hlm : m < p.length
                · have hlmI : (m : Int) < p.length := by omega
                  have MM := Lib.hid (show m + 1 ≤ p.length from hlm)
                  have BX := Lib.hid bel
                  have z1 : (0 : Int) ≤ m := by omega
                  have z2 : (m : Int).toNat = m := by omega
                  have NX := Lib.hid (inB_next hlm f.n)
                  obtain ⟨s', n', c', q, _, _, _, g1⟩ := (SP.out.below bel).get
                  cases q
                  obtain ⟨ae, rfl, _⟩ := g1 _ _ (scells_get p m hlm).1
                  obtain ⟨d0, d1⟩ := step_cells (SP.out.below bel) hlm
                  obtain ⟨e0, e1⟩ := CF.out _ bel
                  generalize p[m]'hlm = x at d0 d1 NX
                  clear g1 bel
                  cases hb : inB p m f.n with
                  | true =>
                    have Y := Lib.hid (show inB p (m + 1) f.n = true by rw [NX.out, hb]; rfl)
                    clear NX hb
                    go_wp2_with fail
                    go_quiet (fail)
                    go_wp2_with fail
                    go_roundw
                    case rel => exact ⟨m + 1, by go_num, MM.out, by rw [Y.out], below_drewN BX.out _⟩
                    case measure => simp [intOf]; omega
                  | false =>
                    by_cases hxf : x.n = f.n
                    · have Y := Lib.hid (show inB p (m + 1) f.n = true by rw [NX.out, hb, hxf]; simp)
                      have hq : ((bs x.n).toList == (bs f.n).toList) = true := by rw [bs_tl', bs_tl']; simpa using hxf
                      clear NX hb hxf
                      go_wp2_with fail
                      go_quiet (fail)
                      go_wp2_with fail
                      go_roundw
                      case rel => exact ⟨m + 1, by go_num, MM.out, by rw [Y.out], below_drewN BX.out _⟩
                      case measure => simp [intOf]; omega
                    · have Y := Lib.hid (show inB p (m + 1) f.n = false by rw [NX.out, hb]; simpa using hxf)
                      have hq : ((bs x.n).toList == (bs f.n).toList) = false := by rw [bs_tl', bs_tl']; simpa using hxf
                      clear NX hb hxf
                      go_wp2_with fail
                      go_quiet (fail)
                      go_wp2_with fail
                      go_roundw
                      case rel => exact ⟨m + 1, by go_num, MM.out, by rw [Y.out], below_drewN BX.out _⟩
                      case measure => simp [intOf]; omega
                · have hlmI : ¬ (m : Int) < p.length := by omega
                  obtain rfl : m = p.length := by omega
                  have BX := Lib.hid bel
                  rw [hex]
                  clear bel hlm hm
                  go_wp2_with fail
                  go_roundw
                  case rel => exact ⟨k + 1, by go_num, KK.out, BX.out⟩
                  case measure => simp [intOf]; omega
            · have hltI : ¬ (k : Int) < a0.length := by omega
              go_wp2_with fail
              go_ret
              exact ⟨rfl, below_trans' BP.out bel⟩
end Go.Proofs.YtapdfgnfblkncaaDoor
