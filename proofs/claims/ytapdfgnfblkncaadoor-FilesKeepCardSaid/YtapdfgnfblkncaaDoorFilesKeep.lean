/- FilesKeep: what was put is got, and others are as they were; of what is alike all is kept; done by the plan, there is just what there was to be. -/
import Derived.Test.YtapdfgnfblkncaaDoorFilKeepP
import Derived.Test.YtapdfgnfblkncaaDoorFilDrop
import Derived.Test.YtapdfgnfblkncaaDoorFilPlan2
import Derived.Test.YtapdfgnfblkncaaDoorFiled
import Derived.Test.YtapdfgnfblkncaaDoorRefFilGet
import Derived.Test.YtapdfgnfblkncaaDoorArgFil
import Derived.Test.YtapdfgnfblkncaaDoorLaid
namespace Go.Proofs.YtapdfgnfblkncaaDoor
open Go.RowKit
set_option linter.unusedVariables false

theorem longFB_no {l : List PF} {most : Nat} (h : longFB l most = false) : l.length ≤ 25 ∧ ∀ f ∈ l, f.n.length ≤ 30 ∧ (f.d.length ≤ most ∨ f.d.length = 4001) := by
  unfold longFB at h
  rw [Bool.or_eq_false_iff] at h
  obtain ⟨h1, h2⟩ := h
  rw [List.any_eq_false] at h2
  refine ⟨by simpa using h1, fun f hf => ?_⟩
  have := h2 f hf
  unfold longF at this
  simp at this
  omega
theorem longN_bd (l : List PF) (most : Nat) : (longN l most = 0 ∧ longFB l most = false) ∨ (longN l most = 1 ∧ longFB l most = true) := by
  cases h : longFB l most with
  | true => exact .inr ⟨longN_t h, rfl⟩
  | false => exact .inl ⟨longN_f h, rfl⟩
theorem fllist_some (E : Nat → Addr) (l : List PF) (v : Value) (w : World) (hl : SliceIs w v 2 (fcells l)) (hd : FOk l) (hlen : l.length ≤ 1000000) (hB : Has E w 2) (hN : Has E w 5) (hF : Has E w 8) (hO : Has E w 9) :
    Calls Tryd.prog 28 #[v] w fun e w' => ∃ r er, e = .returned (.tuple #[r, er]) ∧ Below w.heap.size w w' := by
  by_cases h : (flFault l).1 = 0
  · refine (fllist_yes E l v w hl hd hB hN hF hO ((flFault_wf l).1 h)).mono ?_
    rintro e w' ⟨r, rfl, _, b⟩
    exact ⟨_, _, rfl, b⟩
  · refine (fllist_no E l v w hl hd hlen hB hN hF hO h).mono ?_
    rintro e w' ⟨r, rfl, _, b⟩
    exact ⟨_, _, rfl, b⟩

theorem put_fine (E : Nat → Addr) (l : List PF) (v : Value) (n d : List UInt8) (w : World) (hl : SliceIs w v 2 (fcells l)) (hd : FOk l) (hdd : d.length ≤ maxLen) (hnn : n.length ≤ maxLen) (hB : Has E w 2) (hN : Has E w 5) (hF : Has E w 8) (hO : Has E w 9) (hf : FWF l) (h2 : FWF (fputL l n d)) :
    Calls Tryd.prog 33 #[v, .string (bs n), .string (bs d)] w fun e w' => ∃ r, e = .returned (.tuple #[r, .nilIface]) ∧ SliceIs w' r 2 (fcells (fputL l n d)) ∧ Below w.heap.size w w' := by
  have hz := (flFault_wf _).2 h2
  have main : Calls Tryd.prog 33 #[v, .string (bs n), .string (bs d)] w fun e w' => ∃ r er, e = .returned (.tuple #[r, er]) ∧ FErr E w' er (flFault (fputL l n d)).1 (flFault (fputL l n d)).2 ∧ ((flFault (fputL l n d)).1 = 0 → w'.ownsRow w.heap.size 75 2 r (fputL l n d).length (fcells (fputL l n d))) ∧ ((flFault (fputL l n d)).1 ≠ 0 → r = .slice none 0 0) ∧ Below w.heap.size w w' := by
    cases hg : fgetL l n with
    | none => exact flput_new E l v n d w hl hd hdd hnn hB hN hF hO hf hg
    | some x => exact flput_there E l v n d w hl hd hdd hnn hB hN hF hO hf (by rw [hg]; rfl)
  refine main.mono ?_
  rintro e w' ⟨r, er, rfl, fe, h1, _, b⟩
  rw [hz] at fe
  obtain rfl := fe.zero
  exact ⟨r, rfl, SliceIs.ownedK (h1 hz), b⟩
theorem FWF.ok {l : List PF} (h : FWF l) : FOk l := fun f hf => by
  obtain ⟨h1, h2⟩ := h.each f hf
  have := ((nameB_iff _).1 h1).2.1
  unfold maxLen; omega
theorem files_len {w : World} {v : Value} {l : List PF} (h : SliceIs w v 2 (fcells l)) : ∃ s c, v = .slice s l.length c ∧ l.length ≤ c ∧ c ≤ maxLen := by
  obtain ⟨s', n', c', rfl, hn, h1, h2, _⟩ := h.get
  rw [fcells_len] at hn
  obtain rfl : n' = l.length := by omega
  exact ⟨s', c', rfl, h1, h2⟩

set_option maxRecDepth 100000 in
set_option maxHeartbeats 12800000 in
theorem filesKeep_walk (E : Nat → Addr) (s0 : Option Addr) (n0 c0 : Nat) (a0 : List PF) (s1 : Option Addr) (n1 c1 : Nat) (a1 : List PF) (w : World) (hl0 : SliceIs w (.slice s0 n0 c0) PF.cells (a0.flatMap PF.vals) ∧ ∀ x ∈ a0, x.ok) (hl1 : SliceIs w (.slice s1 n1 c1) PF.cells (a1.flatMap PF.vals) ∧ ∀ x ∈ a1, x.ok) (h1 : ∀ c ∈ [2, 5, 8, 9], Has E w c ∧ Sent w (E c)) (_ : ∀ c ∈ [2, 5, 8, 9], ∀ c' ∈ [2, 5, 8, 9], c ≠ c' → E c ≠ E c') :
    Calls Tryd.prog 4 #[.slice s0 n0 c0, .slice s1 n1 c1] w fun e w' => e = .returned (.bool true) ∧ Below w.heap.size w w' := by
  obtain ⟨hl, hok⟩ := hl0
  obtain ⟨hm, hom⟩ := hl1
  rw [PF.vals_is] at hl hm
  have hl : SliceIs w (.slice s0 n0 c0) 2 (fcells a0) := hl
  have hm : SliceIs w (.slice s1 n1 c1) 2 (fcells a1) := hm
  have HOK := Lib.hid (show FOk a0 from hok)
  have HOM := Lib.hid (show FOk a1 from hom)
  have H2 := Lib.hid (h1 2 (by simp)).1
  have H5 := Lib.hid (h1 5 (by simp)).1
  have H8 := Lib.hid (h1 8 (by simp)).1
  have H9 := Lib.hid (h1 9 (by simp)).1
  have hlen : n0 = a0.length ∧ c0 ≤ maxLen ∧ n0 ≤ c0 := by
    obtain ⟨s', n', c', e, e2, e3, e4, _⟩ := hl.get
    cases e
    rw [fcells_len] at e2; exact ⟨by omega, e4, e3⟩
  have hlen1 : n1 = a1.length ∧ c1 ≤ maxLen ∧ n1 ≤ c1 := by
    obtain ⟨s', n', c', e, e2, e3, e4, _⟩ := hm.get
    cases e
    rw [fcells_len] at e2; exact ⟨by omega, e4, e3⟩
  obtain ⟨rfl, cc0, cc1⟩ := hlen
  obtain ⟨rfl, cd0, cd1⟩ := hlen1
  unfold maxLen at cc0 cd0
  have HL := Lib.hid hl
  have HM := Lib.hid hm
  have FO := Lib.hid (fun (w' : World) (b : Below w.heap.size w w') => filed_ok E w' (H2.out.below b) (H5.out.below b) (H8.out.below b) (H9.out.below b))
  have LO := Lib.hid (fun (w' : World) (b : Below w.heap.size w w') => longFiles_any a0 _ 100 w' (HL.out.below b) (by omega) HOK.out)
  have LM := Lib.hid (fun (w' : World) (b : Below w.heap.size w w') => longFiles_any a1 _ 100 w' (HM.out.below b) (by omega) HOM.out)
  have hx := longN_bd a0 100
  have hy := longN_bd a1 100
  generalize longN a0 100 = X at *
  generalize longN a1 100 = Y at *
  clear hl hm hok hom h1
  by_cases hXY : 0 < X + Y
  · have hX : X = 0 ∨ X = 1 := by omega
    have hY : Y = 0 ∨ Y = 1 := by omega
    clear hx hy
    go_enter Tryd.func4, Tryd.ntmps4
    go_wp2_with fail
    refine (FO.out _ (Below.refl _ _)).mono ?_
    rintro e w1 ⟨rfl, b1⟩
    go_wp2_with fail
    refine (LO.out _ b1).mono ?_
    rintro e w2 ⟨rfl, b2⟩
    have b02 := below_trans' b1 b2
    go_wp2_with fail
    refine (LM.out _ b02).mono ?_
    rintro e w3 ⟨rfl, b3⟩
    have b03 := below_trans' b02 b3
    clear b1 b2 b02 b3 FO LO LM
    rcases hX with rfl | rfl <;> rcases hY with rfl | rfl
    · exact absurd hXY (by decide)
    all_goals
      go_wp2_with fail
      go_ret
      exact ⟨rfl, b03⟩
  have hx : X = 0 ∧ longFB a0 100 = false := by
    rcases hx with h | ⟨h, _⟩
    · exact h
    · rcases hy with ⟨h', _⟩ | ⟨h', _⟩ <;> omega
  have hy : Y = 0 ∧ longFB a1 100 = false := by
    rcases hy with h | ⟨h, _⟩
    · exact h
    · omega
  obtain ⟨rfl, hLF⟩ := hx
  obtain ⟨rfl, hLG⟩ := hy
  obtain ⟨h25, hea⟩ := longFB_no hLF
  obtain ⟨h26, heb⟩ := longFB_no hLG
  clear hXY hLF hLG
  have OW := Lib.hid (fun (w' : World) (b : Below w.heap.size w w') => ownFiles_any a0 _ w' (HL.out.below b) (by omega))
  have OM := Lib.hid (fun (w' : World) (b : Below w.heap.size w w') => ownFiles_any a1 _ w' (HM.out.below b) (by omega))
  have LS := Lib.hid (fun (v : Value) (w' : World) (b : Below w.heap.size w w') (h : SliceIs w' v 2 (fcells a1)) => fllist_some E a1 v w' h HOM.out (by omega) (H2.out.below b) (H5.out.below b) (H8.out.below b) (H9.out.below b))
  have LN := Lib.hid (fun (v : Value) (w' : World) (b : Below w.heap.size w w') (h : SliceIs w' v 2 (fcells a0)) (hf : (flFault a0).1 ≠ 0) => fllist_no E a0 v w' h HOK.out (by omega) (H2.out.below b) (H5.out.below b) (H8.out.below b) (H9.out.below b) hf)
  have LNM := Lib.hid (fun (v : Value) (w' : World) (b : Below w.heap.size w w') (h : SliceIs w' v 2 (fcells a1)) (hf : (flFault a1).1 ≠ 0) => fllist_no E a1 v w' h HOM.out (by omega) (H2.out.below b) (H5.out.below b) (H8.out.below b) (H9.out.below b) hf)
  have LY := Lib.hid (fun (v : Value) (w' : World) (b : Below w.heap.size w w') (h : SliceIs w' v 2 (fcells a0)) (hf : (flFault a0).1 = 0) => fllist_yes E a0 v w' h HOK.out (H2.out.below b) (H5.out.below b) (H8.out.below b) (H9.out.below b) ((flFault_wf a0).1 hf))
  have LYM := Lib.hid (fun (v : Value) (w' : World) (b : Below w.heap.size w w') (h : SliceIs w' v 2 (fcells a1)) (hf : (flFault a1).1 = 0) => fllist_yes E a1 v w' h HOM.out (H2.out.below b) (H5.out.below b) (H8.out.below b) (H9.out.below b) ((flFault_wf a1).1 hf))
  have W1 := Lib.hid (flFault_wf a0)
  have W2 := Lib.hid (flFault_wf a1)
  generalize hq0 : flFault a0 = q0 at *
  generalize hq1 : flFault a1 = q1 at *
  go_enter Tryd.func4, Tryd.ntmps4
  go_wp2_with fail
  refine (FO.out _ (Below.refl _ _)).mono ?_
  rintro e w1 ⟨rfl, b1⟩
  go_wp2_with fail
  refine (LO.out _ b1).mono ?_
  rintro e w2 ⟨rfl, b2⟩
  have b02 := below_trans' b1 b2
  go_wp2_with fail
  refine (LM.out _ b02).mono ?_
  rintro e w3 ⟨rfl, b3⟩
  have b03 := below_trans' b02 b3
  clear b1 b2 b02 b3 FO LO LM
  go_wp2_with fail
  refine (OW.out _ b03).mono ?_
  rintro e w4 ⟨r4, rfl, o4, b4⟩
  have b04 := below_trans' b03 b4
  have S4 := Lib.hid (SliceIs.ownedK o4)
  clear b03 b4 o4 OW
  by_cases hf0 : q0.1 = 0
  case neg =>
    go_wp2_with fail
    refine (LN.out _ _ b04 S4.out hf0).mono ?_
    rintro e w5 ⟨r5, rfl, fe, b5⟩
    have b05 := below_trans' b04 b5
    have FE := Lib.hid fe
    obtain ⟨t5, p5, rfl⟩ := fe.some hf0
    clear b04 b5 fe
    go_wp2_with fail
    refine (OM.out _ b05).mono ?_
    rintro e w6 ⟨r6, rfl, o6, b6⟩
    have b06 := below_trans' b05 b6
    have S6 := Lib.hid (SliceIs.ownedK o6)
    clear b05 b6 o6
    go_wp2_with fail
    refine (LS.out _ _ b06 S6.out).mono ?_
    rintro e w7 ⟨r7, e7, rfl, b7⟩
    have b07 := below_trans' b06 b7
    clear b06 b7
    go_wp2_with fail
    go_ret
    exact ⟨rfl, b07⟩
  go_wp2_with fail
  refine (LY.out _ _ b04 S4.out hf0).mono ?_
  rintro e w5 ⟨r5, rfl, o5, b5⟩
  have b05 := below_trans' b04 b5
  have S5 := Lib.hid (SliceIs.ownedK o5)
  obtain ⟨va, vc, rfl⟩ := owns_slice o5
  have xc := S5.out.get
  clear b04 b5 o5 S4 LY LN LS
  go_wp2_with fail
  refine (OM.out _ b05).mono ?_
  rintro e w6 ⟨r6, rfl, o6, b6⟩
  have b06 := below_trans' b05 b6
  have S6 := Lib.hid (SliceIs.ownedK o6)
  have S56 := Lib.hid (S5.out.below b6)
  clear b05 b6 o6 OM S5
  by_cases hf1 : q1.1 = 0
  case neg =>
    go_wp2_with fail
    refine (LNM.out _ _ b06 S6.out hf1).mono ?_
    rintro e w7 ⟨r7, rfl, fe, b7⟩
    have b07 := below_trans' b06 b7
    have FE := Lib.hid fe
    obtain ⟨t7, p7, rfl⟩ := fe.some hf1
    clear b06 b7 fe
    go_wp2_with fail
    go_ret
    exact ⟨rfl, b07⟩
  have WA := Lib.hid (W1.out.1 hf0)
  have WB := Lib.hid (W2.out.1 hf1)
  go_wp2_with fail
  refine (LYM.out _ _ b06 S6.out hf1).mono ?_
  rintro e w7 ⟨r7, rfl, o7, b7⟩
  have B07 := Lib.hid (below_trans' b06 b7)
  have S7 := Lib.hid (SliceIs.ownedK o7)
  have S57 := Lib.hid (S56.out.below b7)
  obtain ⟨vb, vd, rfl⟩ := owns_slice o7
  clear b06 b7 o7 S6 S56 LYM LNM hf0 hf1 W1 W2 hq0 hq1 hea heb xc
  have hlen0 := WA.out.few
  have hlen1 := WB.out.few
  have h1l := Lib.hid (show (a0.map PF.line).length = a0.length from List.length_map ..)
  have h2l := Lib.hid (show (a1.map PF.line).length = a1.length from List.length_map ..)
  have P1 := flplan_yes E (a0.map PF.line) (a0.map PF.line) _ _ w7 S57.out S57.out WA.out.lines WA.out.lines (H2.out.below B07.out) (H5.out.below B07.out) (H8.out.below B07.out) (H9.out.below B07.out)
  rw [same_len, h1l.out] at P1
  have HP1 := Lib.hid P1
  have P2 := Lib.hid (fun (w' : World) (b : Below w7.heap.size w7 w') => flplan_yes E (a0.map PF.line) (a1.map PF.line) _ _ w' (S57.out.below b) (S7.out.below b) WA.out.lines WB.out.lines (H2.out.below (below_trans' B07.out b)) (H5.out.below (below_trans' B07.out b)) (H8.out.below (below_trans' B07.out b)) (H9.out.below (below_trans' B07.out b)))
  have hpl := planL_le (a0.map PF.line) (a1.map PF.line)
  rw [h1l.out, h2l.out] at hpl
  have PB := Lib.hid (back_law WA.out WB.out)
  have SG := Lib.hid (sends_get WA.out WB.out)
  have DK := Lib.hid (drops_keeps WA.out WB.out)
  have KL := Lib.hid (keep_law WA.out WB.out)
  have SK := Lib.hid (fun k h => same_kind (a0.map PF.line) k h)
  have SLN := Lib.hid (show (planL (a0.map PF.line) (a0.map PF.line)).length = a0.length by rw [same_len, h1l.out])
  generalize planL (a0.map PF.line) (a1.map PF.line) = p at *
  generalize planL (a0.map PF.line) (a0.map PF.line) = q at *
  clear P1
  go_wp2_with fail
  refine HP1.out.mono ?_
  rintro e w8 ⟨r8, rfl, o8, b8⟩
  have SQ8 := Lib.hid (SliceIs.ownedK o8)
  obtain ⟨v8, c8, rfl⟩ := owns_slice o8
  have B8 := Lib.hid b8
  clear o8 b8 HP1
  go_wp2_with fail
  refine (P2.out _ B8.out).mono ?_
  rintro e w9 ⟨r9, rfl, o9, b9⟩
  have SP := Lib.hid (SliceIs.ownedK o9)
  have SQ := Lib.hid (SQ8.out.below b9)
  have S5 := Lib.hid (S57.out.below (below_trans' B8.out b9))
  have B09 := Lib.hid (below_trans' B07.out (below_trans' B8.out b9))
  obtain ⟨v9, c9, rfl⟩ := owns_slice o9
  have mp := (steps_len SP.out).2
  have mq := (steps_len SQ.out).2
  have m5 := (lines_len S5.out).2
  unfold maxLen at mp mq m5
  clear o9 b9 P2 SQ8 S57 S7 B8 B07
  have HS := Lib.hid (fun (c : Nat) (w' : World) (b : Below w9.heap.size w9 w') (h : Has E w c) => h.below (below_trans' B09.out b))
  go_wp2_with fail
  go_loopw [12] (fun i wr => ∃ k : Nat, i = .int .i64 k ∧ k ≤ a0.length ∧ Below w9.heap.size w9 wr) (fun i _ => a0.length - (intOf i).toNat)
  case atStart => exact ⟨0, rfl, by omega, Below.refl _ _⟩
  case round =>
    obtain ⟨k, rfl, hk, bel⟩ := hrel
    by_cases hlt : k < a0.length
    · have hltI : (k : Int) < a0.length := by omega
      have hltQ : k < q.length := by rw [SLN.out]; exact hlt
      obtain ⟨s', n', c', qe, _, _, _, g1⟩ := (SQ.out.below bel).get
      cases qe
      obtain ⟨ad, rfl, dx⟩ := g1 _ _ (scells_get q k hltQ).1
      clear dx
      obtain ⟨d0, d1⟩ := step_cells (SQ.out.below bel) hltQ
      have hkk := SK.out k hltQ
      rw [hkk, bs_kKeep] at d0
      have y1 : (0 : Int) ≤ k := by omega
      have y2 : (k : Int).toNat = k := by omega
      have KK := Lib.hid (show k + 1 ≤ a0.length from hlt)
      have BW := Lib.hid bel
      clear bel g1 hkk
      go_wp2_with fail
      go_roundw
      case rel => exact ⟨k + 1, by go_num, KK.out, BW.out⟩
      case measure => simp [intOf]; omega
    · have hltI : ¬ (k : Int) < a0.length := by omega
      have BW := Lib.hid bel
      clear bel hlt hk SK SLN SQ
      go_wp2_with fail
      refine (ownFiles_any a1 _ wr (HM.out.below (below_trans' B09.out BW.out)) (by omega)).mono ?_
      rintro e wa ⟨ra, rfl, oa, ba⟩
      have bwa := below_trans' BW.out ba
      have SA := SliceIs.ownedK oa
      clear BW ba oa
      go_wp2_with fail
      go_loopw [14, 13] (fun i r wr => ∃ k : Nat, i = .int .i64 k ∧ k ≤ p.length ∧ SliceIs wr r 2 (fcells (dropsTo (p.take k) a1)) ∧ Below w9.heap.size w9 wr) (fun i _ _ => p.length - (intOf i).toNat)
      case atStart => exact ⟨0, rfl, by omega, SA, bwa⟩
      case round =>
        clear SA bwa
        obtain ⟨k, rfl, hk, hs, bel⟩ := hrel
        by_cases hlt : k < p.length
        · have hltI : (k : Int) < p.length := by omega
          obtain ⟨s', n', c', qe, _, _, _, g1⟩ := (SP.out.below bel).get
          cases qe
          obtain ⟨ad, rfl, dx⟩ := g1 _ _ (scells_get p k hlt).1
          clear dx
          obtain ⟨d0, d1⟩ := step_cells (SP.out.below bel) hlt
          have hB := PB.out _ (List.getElem_mem hlt)
          have HIT := Lib.hid (fun e => dropsTo_hit hlt e a1)
          have MISS := Lib.hid (fun e => dropsTo_miss hlt e a1)
          have WF := Lib.hid (WB.out.drops (p.take k))
          have y1 : (0 : Int) ≤ k := by omega
          have y2 : (k : Int).toNat = k := by omega
          have KK := Lib.hid (show k + 1 ≤ p.length from hlt)
          have BW := Lib.hid bel
          generalize hx : p[k]'hlt = x at d0 d1 hB HIT MISS
          obtain ⟨K, n⟩ := x
          simp only [BackOK] at hB
          simp only [] at d0 d1 HIT MISS
          generalize dropsTo (p.take k) a1 = L at *
          have HSL := Lib.hid hs
          clear g1 hx bel hs
          have hlL := WF.out.few
          rcases hB with ⟨rfl, _⟩ | ⟨rfl, _⟩ | ⟨rfl, _⟩
          · have Y := Lib.hid (MISS.out (by decide))
            rw [bs_kSend] at d0
            clear HIT MISS
            go_wp2_with fail
            go_roundw
            case rel => exact ⟨k + 1, by go_num, KK.out, by rw [Y.out]; exact HSL.out, BW.out⟩
            case measure => simp [intOf]; omega
          · have Y := Lib.hid (MISS.out (by decide))
            rw [bs_kKeep] at d0
            clear HIT MISS
            go_wp2_with fail
            go_roundw
            case rel => exact ⟨k + 1, by go_num, KK.out, by rw [Y.out]; exact HSL.out, BW.out⟩
            case measure => simp [intOf]; omega
          · have Y := Lib.hid (HIT.out rfl)
            rw [bs_kDrop] at d0
            clear HIT MISS
            go_wp2_with fail
            refine (fldrop_any L _ n wr HSL.out (by omega)).mono ?_
            rintro e wb ⟨rb, rfl, ob, bb⟩
            have bwb := below_trans' BW.out bb
            have SB := Lib.hid (SliceIs.ownedK ob)
            clear ob bb
            go_wp2_with fail
            go_roundw
            case rel => exact ⟨k + 1, by go_num, KK.out, by rw [Y.out]; exact SB.out, bwb⟩
            case measure => simp [intOf]; omega
        · have hltI : ¬ (k : Int) < p.length := by omega
          rw [List.take_of_length_le (by omega)] at hs
          generalize dropsTo p a1 = D at *
          have BW := Lib.hid bel
          have HSD := Lib.hid hs
          clear bel hs hlt hk
          have PK := Lib.hid (fun k => (putsTo_mem WA.out DK.out (p.take k) (fun s hs => SG.out s (List.mem_of_mem_take hs))).1)
          have GF := Lib.hid (fun (n : List UInt8) (w' : World) (b : Below w9.heap.size w9 w') => flget_any a0 _ n w' (HL.out.below (below_trans' B09.out b)))
          go_wp2_with fail
          go_loopw [15, 13, 16, 17, 18, 19, 20, 21, 22, 23, 24] (fun i r _ _ _ _ _ _ _ _ _ wr => ∃ k : Nat, i = .int .i64 k ∧ k ≤ p.length ∧ SliceIs wr r 2 (fcells (putsTo a0 (p.take k) D)) ∧ Below w9.heap.size w9 wr) (fun i _ _ _ _ _ _ _ _ _ _ _ => p.length - (intOf i).toNat)
          case atStart => exact ⟨0, rfl, by omega, HSD.out, BW.out⟩
          case round =>
            clear HSD BW
            obtain ⟨k, rfl, hk, hs, bel⟩ := hrel
            by_cases hlt : k < p.length
            · have hltI : (k : Int) < p.length := by omega
              obtain ⟨s', n', c', qe, _, _, _, g1⟩ := (SP.out.below bel).get
              cases qe
              obtain ⟨ad, rfl, dx⟩ := g1 _ _ (scells_get p k hlt).1
              clear dx
              have CE := Lib.hid (fun w' b => step_cells (w := w') (SP.out.below b) hlt)
              have hB := PB.out _ (List.getElem_mem hlt)
              have HIT := Lib.hid (fun e => putsTo_hit a0 hlt e D)
              have MISS := Lib.hid (fun e => putsTo_miss a0 hlt e D)
              have WF := Lib.hid (PK.out k)
              have y1 : (0 : Int) ≤ k := by omega
              have y2 : (k : Int).toNat = k := by omega
              have KK := Lib.hid (show k + 1 ≤ p.length from hlt)
              have BW := Lib.hid bel
              generalize hx : p[k]'hlt = x at hB HIT MISS CE
              obtain ⟨K, n⟩ := x
              simp only [BackOK] at hB
              simp only [] at HIT MISS CE
              generalize putsTo a0 (p.take k) D = L at *
              have HSL := Lib.hid hs
              obtain ⟨sr, cr, rfl, mr1, mr2⟩ := files_len hs
              unfold maxLen at mr2
              clear g1 hx hs
              have hlL := WF.out.wf.few
              rcases hB with ⟨rfl, u, hu, _⟩ | ⟨rfl, _⟩ | ⟨rfl, _⟩
              · have hdat : datOf a0 n = u := by unfold datOf; rw [hu]; rfl
                have Y := Lib.hid (show putsTo a0 (p.take (k + 1)) D = fputL L n u by rw [← hdat]; exact HIT.out rfl)
                have WF2 := Lib.hid (WF.out.put WA.out hu)
                have GU := GF.out n
                rw [hu] at GU
                simp only [Option.getD_some, Option.isSome_some] at GU
                have HGU := Lib.hid GU
                have hmu := WA.out.each _ (fgetL_some hu)
                have hnl : n.length ≤ maxLen := by have := ((nameB_iff _).1 hmu.1).2.1; unfold maxLen; simp only [] at this; omega
                have hul : u.length ≤ maxLen := by have := hmu.2; unfold maxLen; simp only [] at this; omega
                have HPU := Lib.hid (fun (w' : World) (b : Below wr.heap.size wr w') => put_fine E L _ n u w' (HSL.out.below b) WF.out.wf.ok hul hnl (HS.out 2 w' (below_trans' BW.out b) H2.out) (HS.out 5 w' (below_trans' BW.out b) H5.out) (HS.out 8 w' (below_trans' BW.out b) H8.out) (HS.out 9 w' (below_trans' BW.out b) H9.out) WF.out.wf WF2.out.wf)
                rw [bs_kSend] at CE
                obtain ⟨d0, d1⟩ := CE.out _ bel
                clear HIT MISS GU hu hdat hmu hnl hul bel
                go_wp2_with fail
                refine (HGU.out wr BW.out).mono ?_
                rintro e wa ⟨rfl, ba⟩
                have bwa := below_trans' BW.out ba
                have BA := Lib.hid ba
                obtain ⟨d0a, d1a⟩ := CE.out _ bwa
                clear ba d0 d1
                go_wp2_with fail
                refine (HPU.out wa BA.out).mono ?_
                rintro e wb ⟨rb, rfl, sb, bb⟩
                have bwb := below_trans' bwa bb
                have BWB := Lib.hid bwb
                have SB := Lib.hid sb
                have SW := Lib.hid (HSL.out.below (below_trans' BA.out bb))
                have GN := Lib.hid (fun (m : List UInt8) (w' : World) (b : Below wb.heap.size wb w') => flget_any (fputL L n u) _ m w' (SB.out.below b))
                have GS := fun (w' : World) (b : Below wb.heap.size wb w') => GN.out n w' b
                rw [put_get_self WF.out.wf.sorted n u] at GS
                simp only [Option.getD_some, Option.isSome_some] at GS
                have HGS := Lib.hid GS
                have PGET := Lib.hid (fun f hf => put_get WF.out.wf.sorted n u (f := f) hf)
                clear sb bb bwa BA d0a d1a HPU HGU GS bwb
                go_wp2_with fail
                go_loopw [21, 22, 23] (fun j _ _ wr2 => ∃ m : Nat, j = .int .i64 m ∧ m ≤ L.length ∧ Below wb.heap.size wb wr2) (fun j _ _ _ => L.length - (intOf j).toNat)
                case atStart => exact ⟨0, rfl, by omega, Below.refl _ _⟩
                case round =>
                  obtain ⟨m, rfl, hm, bel⟩ := hrel
                  by_cases hlm : m < L.length
                  · have hlmI : (m : Int) < L.length := by omega
                    have MM := Lib.hid (show m + 1 ≤ L.length from hlm)
                    have z1 : (0 : Int) ≤ m := by omega
                    have z2 : (m : Int).toNat = m := by omega
                    obtain ⟨s', n', c', qe, _, _, _, g1⟩ := (SW.out.below bel).get
                    cases qe
                    obtain ⟨ae, rfl, dx⟩ := g1 _ _ (fcells_get L m hlm).1
                    clear dx
                    have CF := Lib.hid (fun w' b => file_cells (w := w') (SW.out.below b) hlm)
                    obtain ⟨s, hgs, hsd⟩ := PGET.out _ (List.getElem_mem hlm)
                    generalize L[m]'hlm = f at hgs hsd CF
                    have BX := Lib.hid bel
                    have GM := fun (w' : World) (b : Below wb.heap.size wb w') => GN.out f.n w' b
                    rw [hgs] at GM
                    simp only [Option.getD_some, Option.isSome_some] at GM
                    have HGM := Lib.hid GM
                    obtain ⟨d0, d1⟩ := CF.out _ bel
                    clear g1 bel GM hgs
                    go_wp2_with fail
                    refine (HGM.out _ BX.out).mono ?_
                    rintro e wc ⟨rfl, bc⟩
                    have bxc := below_trans' BX.out bc
                    have BXC := Lib.hid bxc
                    obtain ⟨d0c, d1c⟩ := CF.out _ bxc
                    obtain ⟨e0c, e1c⟩ := CE.out _ (below_trans' BWB.out bxc)
                    clear bc bxc d0 d1 BX
                    by_cases hfn : f.n = n
                    · have hq : ((bs f.n).toList == (bs n).toList) = true := by rw [bs_tl', bs_tl']; simpa using hfn
                      clear hfn hsd
                      go_wp2_with fail
                      go_quiet (fail)
                      go_wp2_with fail
                      go_roundw
                      case rel => exact ⟨m + 1, by go_num, MM.out, below_drewN BXC.out _⟩
                      case measure => simp [intOf]; omega
                    · have hq : ((bs f.n).toList == (bs n).toList) = false := by rw [bs_tl', bs_tl']; simpa using hfn
                      obtain rfl := hsd hfn
                      clear hfn hsd
                      go_wp2_with fail
                      go_quiet (fail)
                      go_wp2_with fail
                      go_roundw
                      case rel => exact ⟨m + 1, by go_num, MM.out, below_drewN BXC.out _⟩
                      case measure => simp [intOf]; omega
                  · have hlmI : ¬ (m : Int) < L.length := by omega
                    have BX := Lib.hid bel
                    obtain ⟨e0c, e1c⟩ := CE.out _ (below_trans' BWB.out bel)
                    clear bel hlm hm
                    go_wp2_with fail
                    refine (HGS.out _ BX.out).mono ?_
                    rintro e wc ⟨rfl, bc⟩
                    have BXC := Lib.hid (below_trans' BX.out bc)
                    clear bc BX e0c e1c
                    go_wp2_with fail
                    go_roundw
                    case rel => exact ⟨k + 1, by go_num, KK.out, by rw [Y.out]; exact SB.out.below BXC.out, below_trans' BWB.out BXC.out⟩
                    case measure => simp [intOf]; omega
              · have Y := Lib.hid (MISS.out (by decide))
                rw [bs_kKeep] at CE
                obtain ⟨d0, d1⟩ := CE.out _ bel
                clear HIT MISS bel
                go_wp2_with fail
                go_roundw
                case rel => exact ⟨k + 1, by go_num, KK.out, by rw [Y.out]; exact HSL.out, BW.out⟩
                case measure => simp [intOf]; omega
              · have Y := Lib.hid (MISS.out (by decide))
                rw [bs_kDrop] at CE
                obtain ⟨d0, d1⟩ := CE.out _ bel
                clear HIT MISS bel
                go_wp2_with fail
                go_roundw
                case rel => exact ⟨k + 1, by go_num, KK.out, by rw [Y.out]; exact HSL.out, BW.out⟩
                case measure => simp [intOf]; omega
            · have hltI : ¬ (k : Int) < p.length := by omega
              have WF := Lib.hid (PK.out k)
              rw [List.take_of_length_le (by omega)] at hs WF
              generalize putsTo a0 p D = L at *
              have HSL := Lib.hid hs
              have BW := Lib.hid bel
              have hLl : L.length = a0.length := by have := congrArg List.length KL.out; rw [List.length_map, List.length_map] at this; exact this
              have FIN := fllist_yes E L _ wr HSL.out WF.out.wf.ok (HS.out 2 wr BW.out H2.out) (HS.out 5 wr BW.out H5.out) (HS.out 8 wr BW.out H8.out) (HS.out 9 wr BW.out H9.out) WF.out.wf
              rw [KL.out, hLl] at FIN
              have HFIN := Lib.hid FIN
              clear FIN bel hs hlt hk hLl
              go_wp2_with fail
              refine HFIN.out.mono ?_
              rintro e wc ⟨rc, rfl, oc, bc⟩
              have BC := Lib.hid (below_trans' BW.out bc)
              have SC := Lib.hid (SliceIs.ownedK oc)
              obtain ⟨vc', cc', rfl⟩ := owns_slice oc
              have mc := (lines_len SC.out).2
              unfold maxLen at mc
              clear oc bc HFIN BW
              go_wp2_with fail
              go_loopw [27] (fun i wr => ∃ k : Nat, i = .int .i64 k ∧ k ≤ a0.length ∧ Below wc.heap.size wc wr) (fun i _ => a0.length - (intOf i).toNat)
              case atStart => exact ⟨0, rfl, by omega, Below.refl _ _⟩
              case round =>
                obtain ⟨k, rfl, hk, bel⟩ := hrel
                by_cases hlt : k < a0.length
                · have hltI : (k : Int) < a0.length := by omega
                  have hltM : k < (a0.map PF.line).length := by rw [h1l.out]; exact hlt
                  obtain ⟨s', n', c', q, _, _, _, g1⟩ := (SC.out.below bel).get
                  cases q
                  obtain ⟨x0, x1, x2⟩ := lcells_get (a0.map PF.line) k hltM
                  obtain ⟨ad1, rfl, d0⟩ := g1 _ _ x0
                  obtain ⟨ad1', q, d1⟩ := g1 _ _ x1
                  cases q
                  obtain ⟨ad1', q, d2⟩ := g1 _ _ x2
                  cases q
                  clear g1
                  obtain ⟨s', n', c', q, _, _, _, g1⟩ := (S5.out.below (below_trans' BC.out bel)).get
                  cases q
                  obtain ⟨ad2, rfl, e0⟩ := g1 _ _ x0
                  obtain ⟨ad2', q, e1⟩ := g1 _ _ x1
                  cases q
                  obtain ⟨ad2', q, e2⟩ := g1 _ _ x2
                  cases q
                  clear g1 x0 x1 x2
                  have y1 : (0 : Int) ≤ k := by omega
                  have y2 : (k : Int).toNat = k := by omega
                  have d1 := cell_at d1
                  have d2 := cell_at d2
                  have e1 := cell_at e1
                  have e2 := cell_at e2
                  generalize (a0.map PF.line)[k]'hltM = x at *
                  have EQ := lnb_not x
                  have KK := Lib.hid (show k + 1 ≤ a0.length from hlt)
                  have BW := Lib.hid bel
                  clear bel
                  go_wp2_with fail
                  go_quiet (fail)
                  go_wp2_with fail
                  go_roundw
                  case rel => exact ⟨k + 1, by go_num, KK.out, below_drewN BW.out _⟩
                  case measure => simp [intOf]; omega
                · have hltI : ¬ (k : Int) < a0.length := by omega
                  go_wp2_with fail
                  go_ret
                  exact ⟨rfl, below_trans' B09.out (below_trans' BC.out bel)⟩
end Go.Proofs.YtapdfgnfblkncaaDoor
