/- The closed fact 'gated'. -/
import Derived.Test.YtkjcclbnbbbfaaaGreatDoorGateText
import Derived.Test.YtkjcclbnbbbfaaaGreatDoorGateLine
import Derived.Test.YtkjcclbnbbbfaaaGreatDoorCode
import Derived.Test.YtkjcclbnbbbfaaaGreatDoorLaid
namespace Go.Proofs.YtkjcclbnbbbfaaaGreatDoor
open Go.RowKit
set_option linter.unusedVariables false

/-- what the package gate wants of the world -/
structure GEnv (E : Nat → Addr) (w : World) : Prop where
  lib : LibW E w
  err : Errs E w
theorem GEnv.below {E : Nat → Addr} {w w' : World} (h : GEnv E w) (hb : Below w.heap.size w w') : GEnv E w' := ⟨h.lib.below hb, h.err.below hb⟩
theorem GEnv.has {E : Nat → Addr} {w : World} (h : GEnv E w) (c : Nat) (h1 : 1 ≤ c) (h2 : c ≤ 12) : Has E w c := h.err.has c h1 h2
def tkT : List UInt8 := [116]
theorem bs_tkT : bs tkT = ⟨#[116]⟩ := by unfold bs tkT; rfl
theorem gt_1 : opC' [] tkT = 0 ∧ opN [] tkT = 1 ∧ opM [] tkT = [(tkT, 1)] := by decide +kernel
theorem gt_2 : opC' [(tkT, 1)] tkT = 0 ∧ opN [(tkT, 1)] tkT = 2 ∧ opM [(tkT, 1)] tkT = [(tkT, 2)] := by decide +kernel
theorem gt_3 : adC [(tkT, 2)] tkT 1 = 11 ∧ adC [(tkT, 2)] tkT 2 = 0 := by decide +kernel
theorem gt_wf : GWF [(tkT, 2)] := ⟨by simp [GSrt], by simp; decide +kernel, by simp, by simp⟩
theorem gt_text : bs (gtext [(tkT, 2)]) = ⟨#[116, 32, 50, 10]⟩ := by
  unfold gtext
  simp only [List.flatMap_cons, List.flatMap_nil, List.append_nil, lineG]
  rw [dec_small (by omega)]
  unfold bs tkT
  rfl
attribute [local irreducible] opC' opN opM adC gtext tkT
set_option maxRecDepth 100000 in
set_option maxHeartbeats 6400000 in
theorem gated_ok (E : Nat → Addr) (w : World) (hE : GEnv E w) : Calls Tryz.prog 21 #[] w fun e w' => e = .returned (.bool true) ∧ Below w.heap.size w w' := by
  have HE := Lib.hid hE
  have ht := bs_tkT
  have htl : tkT.length ≤ 1000000000 := by unfold tkT; decide
  clear hE
  go_enter Tryz.func21, Tryz.ntmps21
  go_wp2_with fail
  refine (gnew_any _).mono ?_
  rintro e w1 ⟨gb, mb, rfl, g1, b1, lo1, lo2⟩
  have O1 := gopen_any (E := E) tkT g1 htl (by omega) ((HE.out.below b1).has 2 (by omega) (by omega)) ((HE.out.below b1).has 5 (by omega) (by omega)) ((HE.out.below b1).has 8 (by omega) (by omega))
  rw [gt_1.1, gt_1.2.1, gt_1.2.2, ht, ev_zero] at O1
  have HO1 := Lib.hid O1
  have B1 := Lib.hid b1
  clear O1 g1 b1
  go_wp2_with fail
  refine HO1.out.mono ?_
  rintro e w2 ⟨rfl, g2, c2⟩
  have b2 := c2.below B1.out (fun x hx => by subst hx; exact lo2)
  have O2 := gopen_any (E := E) tkT g2 htl (by omega) ((HE.out.below b2).has 2 (by omega) (by omega)) ((HE.out.below b2).has 5 (by omega) (by omega)) ((HE.out.below b2).has 8 (by omega) (by omega))
  rw [gt_2.1, gt_2.2.1, gt_2.2.2, ht, ev_zero] at O2
  have HO2 := Lib.hid O2
  have B2 := Lib.hid b2
  clear O2 g2 b2 c2 HO1
  go_wp2_with fail
  refine HO2.out.mono ?_
  rintro e w3 ⟨rfl, g3, c3⟩
  have b3 := c3.below B2.out (fun x hx => by subst hx; exact lo2)
  have A1 := gadmit_any (E := E) tkT 1 g3 htl ((HE.out.below b3).has 6 (by omega) (by omega)) ((HE.out.below b3).has 11 (by omega) (by omega))
  rw [gt_3.1, ht] at A1
  have A2 := Lib.hid (fun (w' : World) (b : Below w3.heap.size w3 w') => gadmit_any (E := E) tkT 2 (g3.below b) htl ((HE.out.below (below_trans' b3 b)).has 6 (by omega) (by omega)) ((HE.out.below (below_trans' b3 b)).has 11 (by omega) (by omega)))
  rw [gt_3.2, ht, ev_zero] at A2
  have TX := Lib.hid (fun (w' : World) (b : Below w3.heap.size w3 w') => gtext_any E gb mb _ _ _ w' (g3.below b) (HE.out.below (below_trans' b3 b)).lib (List.Perm.refl _) gt_wf)
  rw [gt_text] at TX
  have CD := Lib.hid (coded_ev E 11 w3 (HE.out.below b3).err (by omega))
  have HA1 := Lib.hid A1
  have B3 := Lib.hid b3
  clear A1 g3 c3 b3 HO2
  go_wp2_with fail
  refine HA1.out.mono ?_
  rintro e w4 ⟨rfl, rfl⟩
  go_wp2_with fail
  refine CD.out.mono ?_
  rintro e w5 ⟨rfl, b5⟩
  go_wp2_with fail
  refine (A2.out _ b5).mono ?_
  rintro e w6 ⟨rfl, rfl⟩
  go_wp2_with fail
  refine (TX.out _ b5).mono ?_
  rintro e w7 ⟨rfl, b7⟩
  go_wp2_with fail
  go_ret
  exact ⟨rfl, below_trans' (below_trans' B3.out b5) b7⟩
end Go.Proofs.YtkjcclbnbbbfaaaGreatDoor
/- GateStale: what was admitted of an epoch is stale once there is a newer one; epochs rise, each once, also behind a text that was read back. -/
namespace Go.Proofs.YtkjcclbnbbbfaaaGreatDoor
open Go.RowKit
set_option linter.unusedVariables false

theorem strs_at (l : List ByteArray) (k : Nat) (h : k < l.length) : (l.map Value.string)[k]? = some (.string (l[k]'h)) := by
  rw [List.getElem?_map, List.getElem?_eq_getElem h]; rfl
theorem glk_no {m : GM} {k : List UInt8} (h : k ∉ m.map Prod.fst) : glk m k = 0 := by
  induction m with
  | nil => rfl
  | cons q x ih =>
    rw [List.map_cons, List.mem_cons, not_or] at h
    unfold glk
    rw [if_neg (fun e => h.1 e.symm)]
    exact ih h.2
theorem filter_lt {l : GM} {k : List UInt8} (h : k ∈ l.map Prod.fst) : (l.filter fun p => p.1 != k).length < l.length := by
  obtain ⟨p, hp, rfl⟩ := List.mem_map.1 h
  refine Nat.lt_of_le_of_ne (List.length_filter_le _ _) fun e => ?_
  have := List.length_filter_eq_length_iff.1 e p hp
  simp at this
/-- a gate that can be, one token set -/
theorem GWF.set {m l : GM} (h : GWF l) (hp : m.Perm l) {k : List UInt8} {v : Nat} (hk : mayC m k = 0) (hv : 1 ≤ v) (hv2 : v ≤ 2147483648) : GWF (gset l k v) := by
  have hnm : nameB k = true := by
    cases hn : nameB k with
    | true => rfl
    | false => rw [mayC_name hn] at hk; cases hk
  refine ⟨gset_srt h.srt k v, fun p hp => ?_, fun p hp => ?_, ?_⟩
  · rcases gset_mem hp with rfl | hp
    · exact hnm
    · exact h.nm p hp
  · rcases gset_mem hp with rfl | hp
    · exact ⟨hv, hv2⟩
    · exact h.ep p hp
  · rw [(gset_perm h.srt k v).length_eq, List.length_cons]
    have hf := h.few
    by_cases hm : k ∈ l.map Prod.fst
    · have := filter_lt hm
      omega
    · have h1 : glk m k = 0 := by
        refine glk_no fun hm2 => hm ?_
        exact (hp.map Prod.fst).mem_iff.1 hm2
      have h2 : ¬ (glk m k = 0 ∧ 20 ≤ m.length) := fun h3 => by rw [mayC_full hnm h3] at hk; cases hk
      have h3 := hp.length_eq
      have := List.length_filter_le (fun p => p.1 != k) l
      omega
/-- opened: what holds behind it -/
theorem open_wf {m l : GM} (h : GWF l) (hp : m.Perm l) {k : List UInt8} (hk : opC' m k = 0) : opN m k = glk m k + 1 ∧ opM m k = gput m k (glk m k + 1) ∧ (opM m k).Perm (gset l k (glk m k + 1)) ∧ GWF (gset l k (glk m k + 1)) ∧ glk (gset l k (glk m k + 1)) k = glk m k + 1 := by
  have hm : mayC m k = 0 := by
    by_cases h0 : mayC m k = 0
    · exact h0
    · rw [(op_may h0).1] at hk; exact absurd hk h0
  have hl : ¬ 2147483648 ≤ glk m k := fun h1 => by rw [(op_top hm h1).1] at hk; cases hk
  obtain ⟨_, e2, e3⟩ := op_ok hm hl
  have hpp := set_perm hp h.srt k (glk m k + 1)
  have hw := h.set hp (v := glk m k + 1) hm (by omega) (by omega)
  refine ⟨e2, e3, by rw [e3]; exact hpp, hw, ?_⟩
  rw [← glk_perm hpp hw.srt.nodup, glk_same]
theorem open_no {m : GM} {k : List UInt8} (hk : opC' m k ≠ 0) : opM m k = m := by
  by_cases hm : mayC m k = 0
  · by_cases hl : 2147483648 ≤ glk m k
    · exact (op_top hm hl).2.2
    · exact absurd (op_ok hm hl).1 hk
  · exact (op_may hm).2.2
theorem readG_of {l : GM} (h : GWF l) : readG (gtext l) = (l, 0, -1) := readG_text h
attribute [local irreducible] opC' opN opM adC gtext glk gset gput readG
set_option maxRecDepth 100000 in
set_option maxHeartbeats 12800000 in
theorem gateStale_walk (E : Nat → Addr) (s0 : Option Addr) (n0 c0 : Nat) (a0 : List ByteArray) (w : World) (hA : SliceIs w (.slice s0 n0 c0) 1 (a0.map .string) ∧ ∀ s ∈ a0, s.size ≤ maxLen) (hD : Hand w) (hT : TabW w) (hM : MaxW w) (hH : ∀ c ∈ [1, 2, 3, 4, 5, 6, 7, 8, 9, 10, 11, 12, 14, 13], Has E w c ∧ Sent w (E c)) (hN : ∀ c ∈ [1, 2, 3, 4, 5, 6, 7, 8, 9, 10, 11, 12, 14, 13], ∀ c' ∈ [1, 2, 3, 4, 5, 6, 7, 8, 9, 10, 11, 12, 14, 13], c ≠ c' → E c ≠ E c') :
    Calls Tryz.prog 5 #[.slice s0 n0 c0] w fun e w' => e = .returned (.bool true) ∧ Below w.heap.size w w' := by
  have hE : GEnv E w := ⟨⟨hT, hM, (hH 13 (by simp)).1, (hH 14 (by simp)).1⟩, Errs.of hD (fun c hc => hH c (by simp at hc ⊢; omega)) (fun c hc c' hc' => hN c (by simp at hc ⊢; omega) c' (by simp at hc' ⊢; omega))⟩
  have HE := Lib.hid hE
  have GD := Lib.hid (gated_ok E w hE)
  obtain ⟨hsl, _⟩ := hA
  obtain ⟨s', n', c', e, hn, h1, h2, hg⟩ := hsl.get
  cases e
  rw [List.length_map, Nat.mul_one] at hn
  subst hn
  unfold maxLen at h2
  have HSL := Lib.hid hsl
  clear hT hM hH hN hD hE hsl hg
  go_enter Tryz.func5, Tryz.ntmps5
  go_wp2_with fail
  refine GD.out.mono ?_
  rintro e w1 ⟨rfl, b1⟩
  clear GD
  by_cases hq1 : a0.length ≤ 60
  · have hq1I : ¬ (60 : Int) < a0.length := by omega
    go_wp2_with fail
    refine (gnew_any _).mono ?_
    rintro e w2 ⟨gb0, mb0, rfl, g2, b2, _, lo2⟩
    have G2 := Lib.hid g2
    have B2 := Lib.hid (below_trans' b1 b2)
    have LO := Lib.hid (show w.heap.size ≤ mb0 from Nat.le_trans b1.size lo2)
    clear g2 b2 b1 lo2
    go_wp2_with fail
    go_loopw [4, 5, 6, 7, 8, 9] (fun g i _ _ _ _ wr => ∃ (k gb mb n : Nat) (m l : GM), g = .pointer (some ⟨gb, 0, none⟩) ∧ i = .int .i64 k ∧ k ≤ a0.length ∧ n ≤ 600 + k ∧ m.Perm l ∧ GWF l ∧ GtAt wr gb mb n m ∧ w.heap.size ≤ mb ∧ Below w.heap.size w wr) (fun _ i _ _ _ _ _ => a0.length - (intOf i).toNat)
    case atStart => exact ⟨0, gb0, mb0, 0, [], [], rfl, rfl, by omega, by omega, List.Perm.refl _, GWF.nil, G2.out, LO.out, B2.out⟩
    case round =>
      obtain ⟨k, gb, mb, n, m, l, rfl, rfl, hk, hnk, hp, hwf, gt, lom, bel⟩ := hrel
      clear G2 B2 LO
      by_cases hlt : k < a0.length
      · have hltI : (k : Int) < a0.length := by omega
        have D0 := Lib.hid (fun (w' : World) (bb : Below w.heap.size w w') => by
          obtain ⟨s2, n2, c2, e2, _, _, _, g2⟩ := (HSL.out.below bb).get
          cases e2
          exact g2 _ _ (strs_at a0 k hlt))
        obtain ⟨ad, rfl, d0⟩ := D0.out _ bel
        have D1 := Lib.hid (fun (w' : World) (bb : Below w.heap.size w w') => by
          obtain ⟨ad2, e2, d2⟩ := D0.out _ bb
          cases e2
          exact d2)
        clear D0
        have x1 : (0 : Int) ≤ k := by omega
        have x2 : (k : Int).toNat = k := by omega
        generalize a0[k]'hlt = s at *
        obtain ⟨t, rfl⟩ : ∃ t, s = bs t := ⟨s.data.toList, (bs_of s).symm⟩
        have hsz : (bs t).size = t.length := bs_size t
        have BEL := Lib.hid bel
        by_cases hs : t.length ≤ 30
        · have hsI : ¬ (30 : Int) < t.length := by omega
          have LS := Lib.hid (glast_any t gt (by omega))
          have OP := gopen_any (E := E) t gt (by omega) (by omega) ((HE.out.below bel).has 2 (by omega) (by omega)) ((HE.out.below bel).has 5 (by omega) (by omega)) ((HE.out.below bel).has 8 (by omega) (by omega))
          by_cases hop : opC' m t = 0
          · obtain ⟨q2, q3, q4, q5, q6⟩ := open_wf hwf hp hop
            have hz0 : glk m t < 2147483648 := by
              by_cases h1 : 2147483648 ≤ glk m t
              · by_cases hm : mayC m t = 0
                · rw [(op_top hm h1).1] at hop; cases hop
                · rw [(op_may hm).1] at hop; exact absurd hop hm
              · omega
            have q7 : ((opN m t : Nat) : Int) = (glk m t : Int) + 1 := by rw [q2]; omega
            have q8 : glk (opM m t) t = glk m t + 1 := by rw [q3, glk_same]
            rw [hop, ev_zero, q7] at OP
            have RG := readG_of q5
            have hgl := gtext_le q5
            generalize hm' : opM m t = m' at *
            generalize gset m t (glk m t + 1) = x0 at *
            generalize hl' : gset l t (glk m t + 1) = l' at *
            have a1 : adC m' t ((glk m t : Int) + 1) = 0 := ad_ok (by omega) (by omega)
            have a2 : 0 < glk m t → adC m' t (glk m t : Int) = 11 := fun h => ad_stale (by omega) (by omega)
            generalize glk m t = z at *
            have HOP := Lib.hid OP
            have HP := Lib.hid q4
            have HWF := Lib.hid q5
            have HRG := Lib.hid RG
            have HGL := Lib.hid hgl
            have HL6 := Lib.hid q6
            have HA1 := Lib.hid a1
            have HA2 := Lib.hid a2
            have hw1 : IntKind.i64.wrap ((z : Int) + 1) = z + 1 := IntWalk.i64_in _ (by omega)
            have hzz : 0 < z ∨ z = 0 := by omega
            clear OP hop hp hwf gt q2 q3 q4 q5 q6 q7 q8 RG hgl hm' hl' a1 a2 x0 hz0
            rcases hzz with hz | rfl
            · have hzI : (0 : Int) < z := by omega
              go_wp2_with fail
              refine LS.out.mono ?_
              rintro e w3 ⟨rfl, rfl⟩
              go_wp2_with fail
              refine HOP.out.mono ?_
              rintro e w4 ⟨rfl, g4, c4⟩
              have B4 := Lib.hid (c4.below BEL.out (fun x hx => by subst hx; exact lom))
              have A1 := gadmit_any (E := E) t ((z : Int) + 1) g4 (by omega) ((HE.out.below B4.out).has 6 (by omega) (by omega)) ((HE.out.below B4.out).has 11 (by omega) (by omega))
              have A2 := gadmit_any (E := E) t (z : Int) g4 (by omega) ((HE.out.below B4.out).has 6 (by omega) (by omega)) ((HE.out.below B4.out).has 11 (by omega) (by omega))
              rw [HA1.out, ev_zero] at A1
              rw [HA2.out hz] at A2
              have A1 := Lib.hid A1
              have A2 := Lib.hid A2
              have CD := Lib.hid (coded_ev E 11 w4 (HE.out.below B4.out).err (by omega))
              have G4 := Lib.hid g4
              have d4 := D1.out _ B4.out
              clear g4 c4 HOP LS d0
              go_wp2_with fail
              refine A1.out.mono ?_
              rintro e w5 ⟨rfl, rfl⟩
              go_wp2_with fail
              refine A2.out.mono ?_
              rintro e w5 ⟨rfl, rfl⟩
              go_wp2_with fail
              refine CD.out.mono ?_
              rintro e w5 ⟨rfl, b5⟩
              have B5 := Lib.hid (below_trans' B4.out b5)
              have G5 := Lib.hid (G4.out.below b5)
              clear b5 d4 B4 G4 A1 A2 CD
              have TX := Lib.hid (fun (w' : World) (b : Below w5.heap.size w5 w') => gtext_any E gb mb _ _ _ w' (G5.out.below b) (HE.out.below (below_trans' B5.out b)).lib HP.out HWF.out)
              go_wp2_with fail
              refine (TX.out _ (Below.refl _ _)).mono ?_
              rintro e w6 ⟨rfl, b6⟩
              have RD := gread_any E (gtext l') w6 (HE.out.below (below_trans' B5.out b6)).lib (by have := HGL.out; omega) ((HE.out.below (below_trans' B5.out b6)).has 1 (by omega) (by omega)) ((HE.out.below (below_trans' B5.out b6)).has 2 (by omega) (by omega)) ((HE.out.below (below_trans' B5.out b6)).has 5 (by omega) (by omega)) ((HE.out.below (below_trans' B5.out b6)).has 8 (by omega) (by omega)) ((HE.out.below (below_trans' B5.out b6)).has 9 (by omega) (by omega))
              rw [HRG.out] at RD
              have HRD := Lib.hid RD
              clear RD
              go_wp2_with fail
              refine HRD.out.mono ?_
              rintro e w7 ⟨pv, v, rfl, fe, yes, _, b7⟩
              obtain ⟨hgb, hmb, hn, rfl, g7, hn7, _, lo7⟩ := yes trivial
              obtain rfl := fe.zero
              have B67 := Lib.hid (below_trans' b6 b7)
              have LO7 := Lib.hid (show w.heap.size ≤ hmb from Nat.le_trans (Nat.le_trans B5.out.size b6.size) lo7)
              have T7 := Lib.hid (fun (w' : World) (b : Below w7.heap.size w7 w') => gtext_any E hgb hmb _ _ _ w' (g7.below b) (HE.out.below (below_trans' B5.out (below_trans' B67.out b))).lib (List.Perm.refl _) HWF.out)
              have L7 := Lib.hid (fun (w' : World) (b : Below w7.heap.size w7 w') => glast_any t (g7.below b) (by omega))
              have G7 := Lib.hid g7
              have HN7 := Lib.hid (show hn ≤ 600 by have := HGL.out; omega)
              clear fe yes b6 b7 lo7 g7 hn7 HRD
              go_wp2_with fail
              refine (T7.out _ (Below.refl _ _)).mono ?_
              rintro e w8 ⟨rfl, b8⟩
              go_wp2_with fail
              refine (TX.out _ (below_trans' B67.out b8)).mono ?_
              rintro e w9 ⟨rfl, b9⟩
              have B89 := Lib.hid (below_trans' b8 b9)
              have B9 := Lib.hid (below_trans' B5.out (below_trans' B67.out B89.out))
              have d9 := D1.out _ B9.out
              have L9 := L7.out _ B89.out
              rw [HL6.out] at L9
              have HL9 := Lib.hid L9
              have G9 := Lib.hid (G7.out.below B89.out)
              clear b8 b9 L9 T7 TX L7 G7
              go_wp2_with fail
              refine HL9.out.mono ?_
              rintro e w10 ⟨rfl, rfl⟩
              go_wp2_with fail
              go_roundw
              case rel => exact ⟨k + 1, hgb, hmb, hn, l', l', rfl, by go_num, by omega, by have := HN7.out; omega, List.Perm.refl _, HWF.out, G9.out, LO7.out, B9.out⟩
              case measure => simp [intOf]; omega
            · go_wp2_with fail
              refine LS.out.mono ?_
              rintro e w3 ⟨rfl, rfl⟩
              go_wp2_with fail
              refine HOP.out.mono ?_
              rintro e w5 ⟨rfl, g5, c5⟩
              have B5 := Lib.hid (c5.below BEL.out (fun x hx => by subst hx; exact lom))
              have A1 := gadmit_any (E := E) t (((0 : Nat) : Int) + 1) g5 (by omega) ((HE.out.below B5.out).has 6 (by omega) (by omega)) ((HE.out.below B5.out).has 11 (by omega) (by omega))
              rw [HA1.out, ev_zero] at A1
              have A1 := Lib.hid A1
              have G5 := Lib.hid g5
              have d5 := D1.out _ B5.out
              clear g5 c5 HOP LS d0
              go_wp2_with fail
              refine A1.out.mono ?_
              rintro e w6 ⟨rfl, rfl⟩
              clear A1 d5
              have TX := Lib.hid (fun (w' : World) (b : Below w5.heap.size w5 w') => gtext_any E gb mb _ _ _ w' (G5.out.below b) (HE.out.below (below_trans' B5.out b)).lib HP.out HWF.out)
              go_wp2_with fail
              refine (TX.out _ (Below.refl _ _)).mono ?_
              rintro e w6 ⟨rfl, b6⟩
              have RD := gread_any E (gtext l') w6 (HE.out.below (below_trans' B5.out b6)).lib (by have := HGL.out; omega) ((HE.out.below (below_trans' B5.out b6)).has 1 (by omega) (by omega)) ((HE.out.below (below_trans' B5.out b6)).has 2 (by omega) (by omega)) ((HE.out.below (below_trans' B5.out b6)).has 5 (by omega) (by omega)) ((HE.out.below (below_trans' B5.out b6)).has 8 (by omega) (by omega)) ((HE.out.below (below_trans' B5.out b6)).has 9 (by omega) (by omega))
              rw [HRG.out] at RD
              have HRD := Lib.hid RD
              clear RD
              go_wp2_with fail
              refine HRD.out.mono ?_
              rintro e w7 ⟨pv, v, rfl, fe, yes, _, b7⟩
              obtain ⟨hgb, hmb, hn, rfl, g7, hn7, _, lo7⟩ := yes trivial
              obtain rfl := fe.zero
              have B67 := Lib.hid (below_trans' b6 b7)
              have LO7 := Lib.hid (show w.heap.size ≤ hmb from Nat.le_trans (Nat.le_trans B5.out.size b6.size) lo7)
              have T7 := Lib.hid (fun (w' : World) (b : Below w7.heap.size w7 w') => gtext_any E hgb hmb _ _ _ w' (g7.below b) (HE.out.below (below_trans' B5.out (below_trans' B67.out b))).lib (List.Perm.refl _) HWF.out)
              have L7 := Lib.hid (fun (w' : World) (b : Below w7.heap.size w7 w') => glast_any t (g7.below b) (by omega))
              have G7 := Lib.hid g7
              have HN7 := Lib.hid (show hn ≤ 600 by have := HGL.out; omega)
              clear fe yes b6 b7 lo7 g7 hn7 HRD
              go_wp2_with fail
              refine (T7.out _ (Below.refl _ _)).mono ?_
              rintro e w8 ⟨rfl, b8⟩
              go_wp2_with fail
              refine (TX.out _ (below_trans' B67.out b8)).mono ?_
              rintro e w9 ⟨rfl, b9⟩
              have B89 := Lib.hid (below_trans' b8 b9)
              have B9 := Lib.hid (below_trans' B5.out (below_trans' B67.out B89.out))
              have d9 := D1.out _ B9.out
              have L9 := L7.out _ B89.out
              rw [HL6.out] at L9
              have HL9 := Lib.hid L9
              have G9 := Lib.hid (G7.out.below B89.out)
              clear b8 b9 L9 T7 TX L7 G7
              go_wp2_with fail
              refine HL9.out.mono ?_
              rintro e w10 ⟨rfl, rfl⟩
              go_wp2_with fail
              go_roundw
              case rel => exact ⟨k + 1, hgb, hmb, hn, l', l', rfl, by go_num, by omega, by have := HN7.out; omega, List.Perm.refl _, HWF.out, G9.out, LO7.out, B9.out⟩
              case measure => simp [intOf]; omega
          · rw [ev_pos E hop, open_no hop] at OP
            have HOP := Lib.hid OP
            have HP := Lib.hid hp
            have HWF := Lib.hid hwf
            clear OP hop hp hwf gt
            go_wp2_with fail
            refine LS.out.mono ?_
            rintro e w3 ⟨rfl, rfl⟩
            go_wp2_with fail
            refine HOP.out.mono ?_
            rintro e w4 ⟨rfl, g4, c4⟩
            have B4 := Lib.hid (c4.below BEL.out (fun x hx => by subst hx; exact lom))
            have G4 := Lib.hid g4
            have LS4 := Lib.hid (glast_any t g4 (by omega))
            have d4 := D1.out _ B4.out
            clear g4 c4 HOP LS
            go_wp2_with fail
            refine LS4.out.mono ?_
            rintro e w5 ⟨rfl, rfl⟩
            go_wp2_with fail
            go_roundw
            case rel => exact ⟨k + 1, gb, mb, n + 1, m, l, rfl, by go_num, by omega, by omega, HP.out, HWF.out, G4.out, lom, B4.out⟩
            case measure => simp [intOf]; omega
        · have hsI : (30 : Int) < t.length := by omega
          go_wp2_with fail
          go_ret
          exact ⟨rfl, BEL.out⟩
      · have hltI : ¬ (k : Int) < a0.length := by omega
        go_wp2_with fail
        go_ret
        exact ⟨rfl, bel⟩
  · have hq1I : (60 : Int) < a0.length := by omega
    go_wp2_with fail
    go_ret
    exact ⟨rfl, b1⟩
end Go.Proofs.YtkjcclbnbbbfaaaGreatDoor
