/- WindowActs: any acts of a sender, and of a receiver. The text written by program (gen_windowacts.py). -/
import Derived.Test.YtnjkopjbognpiaaDoorActT
import Derived.Test.YtnjkopjbognpiaaDoorArgAct
import Derived.Test.YtnjkopjbognpiaaDoorCode
import Derived.Deep.DeepCutAuto
namespace Go.Proofs.YtnjkopjbognpiaaDoor
open Go.RowKit
set_option linter.unusedVariables false
attribute [local irreducible] takeR takeD sTake ackMore aheadB pushC pushL pushX pushN morR

theorem SndAt.mono' {w : World} {base base' sb : Nat} {v : Value} {next : Int} {l : List PK} (h : SndAt w base sb v next l) (hb : base' ≤ base) : SndAt w base' sb v next l := ⟨h.cells, owns_mono' h.own hb, Nat.le_trans hb h.lo, h.ne, h.next⟩
set_option maxRecDepth 100000 in
set_option maxHeartbeats 51200000 in
theorem windowActs_walk (E : Nat → Addr) (a0 : Int) (s1 : Option Addr) (n1 c1 : Nat) (a1 : List PAct) (a2 : Int) (a3 : Int) (w : World) (hw0 : (Lit.int .i64 a0).wf = true) (hA : SliceIs w (.slice s1 n1 c1) PAct.cells (a1.flatMap PAct.vals) ∧ ∀ x ∈ a1, x.ok w) (_ : (Lit.int .i64 a2).wf = true) (_ : (Lit.int .i64 a3).wf = true) (hh : Hand w) (h1 : ∀ c ∈ [1, 2, 3, 4, 5, 6, 7, 8, 9, 10, 11, 12], Has E w c ∧ Sent w (E c)) (h2 : ∀ c ∈ [1, 2, 3, 4, 5, 6, 7, 8, 9, 10, 11, 12], ∀ c' ∈ [1, 2, 3, 4, 5, 6, 7, 8, 9, 10, 11, 12], c ≠ c' → E c ≠ E c') :
    Calls Tryd.prog 3 #[.int .i64 a0, .slice s1 n1 c1, .int .i64 a2, .int .i64 a3] w fun e w' => e = .returned (.bool true) ∧ Below w.heap.size w w' := by
  have hE := Errs.of hh h1 h2
  have HE := Lib.hid hE
  have H2 := Lib.hid (hE.has 2 (by omega) (by omega))
  have H8 := Lib.hid (hE.has 8 (by omega) (by omega))
  obtain ⟨hsl, hok⟩ := hA
  have HSL := Lib.hid hsl
  have HOK := Lib.hid hok
  obtain ⟨s', n', c', e, hn, g1, g2, _⟩ := hsl.get
  cases e
  rw [flat_len PAct.vals 4 PAct.vals_len, show PAct.cells = 4 from rfl] at hn
  have hn' : a1.length = n1 := by omega
  subst hn'
  unfold maxLen at g2
  have FO := Lib.hid (windowed_ok E w H2.out H8.out)
  clear h1 h2 hh hE hsl hok hn hw0
  go_enter Tryd.func3, Tryd.ntmps3
  go_wp2_with fail
  refine FO.out.mono ?_
  rintro e wA ⟨rfl, bA⟩
  clear FO
  by_cases h80 : a1.length ≤ 80
  · have h80I : ¬ (80 : Int) < a1.length := by omega
    have NS := Lib.hid (newsnd_any a0 wA)
    go_wp2_with fail
    refine NS.out.mono ?_
    rintro e wB ⟨sb, rfl, sndB, bB⟩
    have NR := Lib.hid (newrcv_any a0 wB)
    have SB := Lib.hid (sndB.mono' bA.size)
    have BB := Lib.hid (below_trans' bA bB)
    clear sndB bA bB NS
    go_wp2_with fail
    refine NR.out.mono ?_
    rintro e wC ⟨rb, mb, rfl, rcvC, bC, hrb, hmb⟩
    have WS := Lib.hid (WinS.begin SB.out BB.out rcvC bC hrb hmb)
    have hq : (aheadB a2 a3 != aheadB a2 a3) = false := by simp
    have IA := Lib.hid (fun w' => calls_flip (risAhead_any a2 a3 w'))
    have PA := Lib.hid (fun w' => wahead_any a2 a3 w')
    have SO := Lib.hid (fun w' => calls_flip (rstartOf_any a0 w'))
    have hst := md_lt (max a0 0)
    generalize aheadB a2 a3 = q at *
    clear NR rcvC bC hrb hmb SB BB
    go_wp2_with fail
    refine (IA.out _).mono ?_
    rintro e w1 ⟨rfl, rfl⟩
    go_wp2_with fail
    refine (PA.out _).mono ?_
    rintro e w1 ⟨rfl, rfl⟩
    go_wp2_with fail
    refine (SO.out _).mono ?_
    rintro e w1 ⟨rfl, rfl⟩
    go_wp2_with fail
    refine (SO.out _).mono ?_
    rintro e w1 ⟨rfl, rfl⟩
    have START : Hid (∃ U, WState w ((wC.alloc (.cells #[.int .i64 (stN a0), .slice none 0 0, .slice none 0 0] 34)).alloc (.cells #[.int .i64 (stN a0), .slice none 0 0, .slice none 0 0] 37)) sb rb mb wC.heap.size (wC.heap.size + 1) 0 U 0 (stN a0) [] (stN a0) [] []) := Lib.hid (by
      have h1 := heap_alloc_new wC (.cells #[.int .i64 (stN a0), .slice none 0 0, .slice none 0 0] 34)
      have b1 := wb_alloc wC (.cells #[.int .i64 (stN a0), .slice none 0 0, .slice none 0 0] 34)
      have h2 := heap_alloc_new (wC.alloc (.cells #[.int .i64 (stN a0), .slice none 0 0, .slice none 0 0] 34)) (.cells #[.int .i64 (stN a0), .slice none 0 0, .slice none 0 0] 37)
      have b2 := wb_alloc (wC.alloc (.cells #[.int .i64 (stN a0), .slice none 0 0, .slice none 0 0] 34)) (.cells #[.int .i64 (stN a0), .slice none 0 0, .slice none 0 0] 37)
      rw [show (wC.alloc (.cells #[.int .i64 (stN a0), .slice none 0 0, .slice none 0 0] 34)).heap.size = wC.heap.size + 1 by simp] at h2
      exact WState.start (w2 := w) WS.out ((b2.block _ (by simp)).trans h1) h2 (below_trans' b1 b2) (Nat.le_refl _) (Nat.le_succ _) (by omega))
    generalize hms : wC.heap.size = ms at *
    clear WS IA PA SO hst
    go_wp2_with fail
    go_loopw [15, 16, 17, 18, 19, 20, 21, 22] (fun i _ _ _ _ _ _ _ wr => ∃ (k N : Nat) (U : Nat → Prop) (next : Int) (l : List PK) (due : Int) (m : List (Int × List UInt8)) (lD : List PK), i = .int .i64 k ∧ k ≤ a1.length ∧ WState w wr sb rb mb ms (ms + 1) k U N next l due m lD) (fun i _ _ _ _ _ _ _ _ => a1.length - (intOf i).toNat)
    case atStart =>
      obtain ⟨U, hs⟩ := START.out
      exact ⟨0, 0, U, _, [], _, [], [], rfl, by omega, hs⟩
    case round =>
      obtain ⟨k, N, U, next, l, due, m, lD, rfl, hk, hws⟩ := hrel
      have HWS := Lib.hid hws
      clear hws
      by_cases hlt : k < a1.length
      · have hltI : (k : Int) < a1.length := by omega
        have xok := HOK.out (a1[k]'hlt) (List.getElem_mem hlt)
        have hgk := flat_get PAct.vals 4 PAct.vals_len a1 k
        obtain ⟨sA, nA, cA, eA, _, _, _, gA⟩ := (HSL.out.below HWS.out.wa.bel).get
        cases eA
        obtain ⟨ad, rfl, d0⟩ := gA (k * 4) _ (by have := hgk 0 hlt (by omega); simp only [Nat.add_zero] at this; rw [this]; rfl)
        obtain ⟨_, eA, d1⟩ := gA (k * 4 + (0 + 1)) _ (by rw [hgk 1 hlt (by omega)]; rfl)
        cases eA
        obtain ⟨_, eA, d2⟩ := gA (k * 4 + (1 + 1)) _ (by rw [hgk 2 hlt (by omega)]; rfl)
        cases eA
        obtain ⟨_, eA, d3⟩ := gA (k * 4 + (2 + 1)) _ (by rw [hgk 3 hlt (by omega)]; rfl)
        cases eA
        clear gA hgk
        have x1 : (0 : Int) ≤ k := by omega
        have x2 : (k : Int).toNat = k := by omega
        have KK := Lib.hid (show k + 1 ≤ a1.length from hlt)
        generalize hX : a1[k]'hlt = X at *
        obtain ⟨kd, sd, nd, mv, mord⟩ := X
        simp only at d0 d1 d2 d3
        obtain ⟨ok1, ok2, ok3, ok4, ma, mm, mc, rfl⟩ := xok
        simp only at ok1 ok2 ok3 ok4
        have hmm : mm = mord.length := by
          obtain ⟨_, _, _, e, h, _⟩ := ok4.get
          cases e
          rw [List.length_map, Nat.mul_one] at h
          exact h.symm
        subst hmm
        have OK4 := Lib.hid ok4
        have OK3 := Lib.hid ok3
        have d1 := cell_at d1
        have d2 := cell_at d2
        have d3 := cell_at d3
        have hsz : (bs sd).size = sd.length := bs_size sd
        have BW := Lib.hid HWS.out.wa.bel
        have HXN := Lib.hid (heap_alloc_new wr (.cells #[.string (bs kd), .string (bs sd), .int .i64 nd, .slice ma mord.length mc] 39))
        have HXB := Lib.hid (wb_alloc wr (.cells #[.string (bs kd), .string (bs sd), .int .i64 nd, .slice ma mord.length mc] 39))
        have HNU : Hid (¬ U wr.heap.size) := Lib.hid fun hu => by have := (HWS.out.wa.lo _ hu).2; omega
        clear hX ok4 ok3
        by_cases hS : sd.length ≤ 60 ∨ sd.length = 20001
        · by_cases hM : mord.length ≤ 40
          · have hMI : ¬ (40 : Int) < mord.length := by omega
            rcases hS with hS | hS
            · have hSI : ¬ (60 : Int) < sd.length := by omega
              by_cases hP : ((bs kd).toList == [112, 117, 115, 104]) = true
              · as_aux_lemma =>
                  have HWX := Lib.hid (HWS.out.below HXB.out)
                  have PA0 := Lib.hid (a_push E sd HWX.out.wa ok2 H2.out H8.out (by have := HWX.out.hN; have := KK.out; omega))
                  go_wp2_with fail
                  refine PA0.out.mono ?_
                  rintro e wp ⟨rfl, U1, wa1, lat1⟩
                  obtain ⟨hxn1, hnu1⟩ := act_kept HXN.out lat1 HNU.out
                  have HX1 := Lib.hid hxn1
                  have y1 : wp.cell? ⟨wr.heap.size, 1, none⟩ = some (.string (bs sd)) := by simp [World.cell?, hxn1]
                  have WA1 := Lib.hid wa1
                  have DP0 := Lib.hid (d_push sd WA1.out HWX.out.wa.facts.2.2.1 HWX.out.wa.facts.1 ok2 (by have := HWX.out.wa.facts.2.2.2.1; have := HWX.out.hN; have := KK.out; omega))
                  clear hxn1 hnu1 wa1 lat1 PA0 HXN HXB HX1
                  go_wp2_with fail
                  refine DP0.out.mono ?_
                  rintro e wq ⟨rfl, U2, wa2, lat2⟩
                  have WA2 := Lib.hid wa2
                  have CE0 := Lib.hid (coded_ev E (pushC next l sd) wq (HE.out.below WA2.out.bel) (pushC_le next l sd))
                  have hqn : (pushN (pushC next l sd) next != pushN (pushC next l sd) next) = false := by simp
                  clear wa2 lat2 DP0
                  generalize pushN (pushC next l sd) next = pn at *
                  go_wp2_with fail
                  refine CE0.out.mono ?_
                  rintro e wt ⟨rfl, bt⟩
                  have HZ0 : Hid (∃ (nx' : Int) (l' : List PK) (du' : Int) (m' : List (Int × List UInt8)) (lD' : List PK) (U' : Nat → Prop) (N' : Nat), WState w wt sb rb mb ms (ms + 1) (k + 1) U' N' nx' l' du' m' lD') := Lib.hid ⟨_, _, _, _, _, _, _, ⟨WA2.out.below bt, by have := HWX.out.hN; omega, HWX.out.ord.push HWX.out.wa.facts.1 HWX.out.wa.facts.2.2.1 sd, HWX.out.wait, HWX.out.nod, by have := HWX.out.few; omega⟩⟩
                  clear bt CE0 WA1 WA2 HWX HWS
                  obtain ⟨nx', l', du', m', lD', U', N', hz⟩ := HZ0.out
                  have HZ := Lib.hid hz
                  clear hz HZ0
                  have HZA := Lib.hid (fun (w' : World) (b : Below wt.heap.size wt w') => a_ack (HZ.out.below b).wa)
                  go_wp2_with fail
                  refine (HZA.out _ (Below.refl _ _)).mono ?_
                  rintro e wa ⟨ra, rfl, oa, ba⟩
                  obtain ⟨raa, rac, rfl⟩ := owns_slice oa
                  have BZ1 := Lib.hid ba
                  have OA := Lib.hid oa
                  clear oa ba HZA
                  go_upto_region 35 with fail
                  have hcc := heap_alloc_new wa (.cells #[.int .i64 du', .slice raa (ackMore du' m').length rac] 49)
                  have bcc := wb_alloc wa (.cells #[.int .i64 du', .slice raa (ackMore du' m').length rac] 49)
                  have BZ2 := Lib.hid (below_trans' BZ1.out bcc)
                  have SA := Lib.hid (SliceIs.below (SliceIs.ownedK OA.out) bcc)
                  have HY := Lib.hid (HZ.out.below BZ2.out)
                  obtain ⟨vN, vD, ⟨n1, n2⟩, sN, sD⟩ := HY.out.wa.msc
                  have n3 := HY.out.wa.mrc
                  have SN := Lib.hid sN
                  have hcb := lt_of_block hcc
                  obtain ⟨vNa, vNn, vNc, rfl⟩ : ∃ a n c, vN = .slice a n c := by
                    obtain ⟨_, _, _, e, _⟩ := sN.get
                    exact ⟨_, _, _, e⟩
                  have hak := morR_ack (due := du') HY.out.wait
                  have HAK := Lib.hid hak
                  generalize hwc : wa.alloc (.cells #[.int .i64 du', .slice raa (ackMore du' m').length rac] 49) = wc at *
                  generalize hcbn : wa.heap.size = cb at *
                  have HCC := Lib.hid hcc
                  have N1 := Lib.hid n1
                  have N3 := Lib.hid n3
                  have DD : Hid (∀ w' : World, Below wc.heap.size wc w' → (w'.cell? ⟨ms, 1, none⟩ = some (.slice vNa vNn vNc) ∧ w'.cell? ⟨ms + 1, 0, none⟩ = some (.int .i64 du') ∧ w'.cell? ⟨cb, 0, none⟩ = some (.int .i64 du') ∧ w'.cell? ⟨cb, 1, none⟩ = some (.slice raa (ackMore du' m').length rac)) ∧ Below wc.heap.size wc w') := Lib.hid fun w' b => by
                    have hc := (b.block cb (lt_of_block HCC.out)).trans HCC.out
                    refine ⟨⟨(b.cell (World.block_lt_of_cell? _ _ N1.out)).trans N1.out, (b.cell (World.block_lt_of_cell? _ _ N3.out)).trans N3.out, by simp [World.cell?, hc], by simp [World.cell?, hc]⟩, b⟩
                  have BR := Below.refl wc.heap.size wc
                  have S0 := DD.out wc BR
                  have KE := Lib.hid (fun (w' : World) (b : Below wc.heap.size wc w') => a_kept (HY.out.below b).wa (by have := HY.out.hN; omega))
                  have MO := Lib.hid (fun (w' : World) (b : Below wc.heap.size wc w') => d_more_as (HY.out.below b).wa HY.out.wa.facts.2.1 _ HAK.out)
                  have LL := Lib.hid (fun (w' : World) (b : Below wc.heap.size wc w') => SliceIs.below SN.out b)
                  have LA := Lib.hid (fun (w' : World) (b : Below wc.heap.size wc w') => SliceIs.below SA.out b)
                  have BF := Lib.hid BZ2.out
                  clear n1 n2 n3 sN sD hcc bcc hak HCC SN SA OA BZ1 BZ2 hwc hcbn hcb
                  go_region_held3 (fun w' => (w'.cell? ⟨ms, 1, none⟩ = some (.slice vNa vNn vNc) ∧ w'.cell? ⟨ms + 1, 0, none⟩ = some (.int .i64 du') ∧ w'.cell? ⟨cb, 0, none⟩ = some (.int .i64 du') ∧ w'.cell? ⟨cb, 1, none⟩ = some (.slice raa (ackMore du' m').length rac)) ∧ Below wc.heap.size wc w') (first | assumption | exact S0 | exact DD.out _ (by assumption) | exact DD.out _ (Below.drew BR))
                    (first
                    | (go_at_call 21; refine (KE.out _ ?_).mono ?_; (first | assumption | exact Below.drew BR); rintro e wk ⟨rk, rfl, ok, bk⟩; obtain ⟨ka, kc, rfl⟩ := owns_slice ok; have SLk := Lib.hid (show SliceIs wk (.slice ka l'.length kc) 1 (intV (l'.map PK.n)) from by have := SliceIs.ownedK ok; unfold intV; rw [List.map_map]; exact this); have bbk := below_trans' (by first | assumption | exact Below.drew BR) bk; have SSk := DD.out _ bbk)
                    | (go_at_call 20; (with_reducible refine (sameInts_yes (.slice ka l'.length kc) (.slice vNa vNn vNc) (l'.map PK.n) _ SLk.out (LL.out _ ?_)).mono ?_); assumption; rintro e wl ⟨rfl, bl⟩; have bbl := below_trans' (by assumption) bl; have SSl := DD.out _ bbl)
                    | (go_at_call 16; refine (MO.out _ ?_).mono ?_; (assumption); rintro e wn ⟨rn, rfl, on, bn⟩; obtain ⟨nna, nnc, rfl⟩ := owns_slice on; have SLn := Lib.hid (SliceIs.ownedK on); have bbn := below_trans' (by assumption) bn; have SSn := DD.out _ bbn)
                    | (go_at_call 20; (with_reducible refine (sameInts_yes (.slice raa (ackMore du' m').length rac) (.slice nna (ackMore du' m').length nnc) (ackMore du' m') _ (LA.out _ ?_) SLn.out).mono ?_); assumption; rintro e wo ⟨rfl, bo⟩; have bbo := below_trans' (by assumption) bo; have SSo := DD.out _ bbo))
                  all_goals
                    have HB9 := Lib.hid bbo
                    clear SSk SSl SSn SSo bbk bbl bbn bbo bk bl bn bo ok on S0 BR SLk SLn KE MO LL LA DD
                    go_wp2_with fail
                    go_roundw
                    case rel => exact ⟨k + 1, N', U', nx', l', du', m', lD', by go_num, KK.out, HY.out.below HB9.out⟩
                    case measure => simp [intOf]; omega
              · have hP := Bool.eq_false_iff.2 hP
                by_cases hA : ((bs kd).toList == [97, 99, 107]) = true
                · as_aux_lemma =>
                    have hA1 : ((bs kd).toList == [97, 99, 107]) = true := hA
                    go_upto_region 29 with fail
                    have HWX := Lib.hid (HWS.out.below HXB.out)
                    have BWX := Lib.hid (below_trans' BW.out HXB.out)
                    have hlx := lt_of_block HXN.out
                    have HLX := Lib.hid hlx
                    generalize hwx : wr.alloc (.cells #[.string (bs kd), .string (bs sd), .int .i64 nd, .slice ma mord.length mc] 39) = wx at *
                    generalize hxb : wr.heap.size = xb at *
                    obtain ⟨tk, htk⟩ : ∃ tk : Int, tk = (l.length : Int) - (sTake next l nd mord).length := ⟨_, rfl⟩
                    have HTK := Lib.hid htk
                    have htq : (tk != tk) = false := by simp
                    obtain ⟨i0, hi, hz0, hz1, hz2⟩ := info_parts infoInt'
                    have HM1 := Lib.hid (show 0 + mord.length ≤ maxLen by unfold maxLen; omega)
                    have HM2 := Lib.hid (show (0 + mord.length) * 8 ≤ 140737488355328 by omega)
                    have HMC : Hid (∀ u ∈ mord.map (Value.int .i64), u.oneCell' = true) := Lib.hid (fun u hu => by
                      obtain ⟨z, _, rfl⟩ := List.mem_map.1 hu
                      rfl)
                    have DD : Hid (∀ w' : World, w'.heap[xb]? = some (.cells #[.string (bs kd), .string (bs sd), .int .i64 nd, .slice ma mord.length mc] 39 (0, 0)) → (w'.cell? ⟨xb, 2, none⟩ = some (.int .i64 nd) ∧ w'.cell? ⟨xb, 3, none⟩ = some (.slice ma mord.length mc)) ∧ w'.heap[xb]? = some (.cells #[.string (bs kd), .string (bs sd), .int .i64 nd, .slice ma mord.length mc] 39 (0, 0))) := Lib.hid fun w' hc => by
                      refine ⟨⟨by simp [World.cell?, hc], by simp [World.cell?, hc]⟩, hc⟩
                    have BR := Below.refl wx.heap.size wx
                    have S0 := DD.out wx HXN.out
                    have OKX := Lib.hid (fun (w' : World) (b : Below wx.heap.size wx w') => SliceIs.below OK4.out (below_trans' BWX.out b))
                    have XH := Lib.hid (fun (w' : World) (b : Below wx.heap.size wx w') => (b.block xb HLX.out).trans HXN.out)
                    have AS := Lib.hid (fun (v' : Value) (w' w5 : World) (b : Below wx.heap.size wx w5) (ho : w5.ownsRow wx.heap.size 3 1 v' mord.length (mord.map (Value.int .i64))) => a_stake v' nd mord (HWX.out.below b).wa (SliceIs.ownedK ho) (HWX.out.wa.apart ho (Nat.le_refl _)) (by have := HWX.out.hN; omega))
                    clear hwx hxb hlx htk HXB
                    go_region_held3 (fun w' => (w'.cell? ⟨xb, 2, none⟩ = some (.int .i64 nd) ∧ w'.cell? ⟨xb, 3, none⟩ = some (.slice ma mord.length mc)) ∧ w'.heap[xb]? = some (.cells #[.string (bs kd), .string (bs sd), .int .i64 nd, .slice ma mord.length mc] 39 (0, 0))) (first | assumption | exact S0 | exact DD.out _ (XH.out _ (Below.drew BR)))
                      (first
                      | (go_at_call 13; refine (AS.out _ w5 _ b5 O5.out).mono ?_; rintro e w6 ⟨he, U1, wa1, lat1⟩; rw [← HTK.out] at he; subst he; have hx6 := (act_kept SS5.2 lat1 (fun hu => HNU.out hu)); have SS6 := DD.out _ hx6.1; have HNU6 := Lib.hid hx6.2; have WA1 := Lib.hid wa1; clear wa1 lat1 hx6)
                      | (go_at_call 14; refine (d_stake _ nd mord WA1.out HWX.out.wa.facts.2.2.1 HWX.out.wa.facts.1 (SliceIs.below OK4.out WA1.out.bel) (by have := HWX.out.wa.facts.2.2.2.1; have := HWX.out.hN; omega)).mono ?_; rintro e wt ⟨he, U2, wa2, lat2⟩; rw [← HTK.out] at he; subst he; have hx7 := (act_kept SS6.2 lat2 HNU6.out).1; have SS7 := DD.out _ hx7; have WA2 := Lib.hid wa2; clear wa2 hx7)
                      | (refine step_append_is rfl (.tmp 135) (.tmp 137) 31 rfl wx.heap.size 3 i0 _ 1 8 Tryd.underlying31 hi hz0 hz1 hz2 rfl (by decide) (.slice none 0 0) 0 [] rfl (World.ownsRow_nil _ _ _ _) (.slice ma mord.length mc) mord.length (mord.map (Value.int .i64)) rfl (OKX.out _ (by first | assumption | exact Below.drew BR)) (by simp) HMC.out HM1.out HM2.out (by first | exact Nat.le_refl _ | exact (Below.drew BR).size) ?_; intro v' w5 hown5 hgrow hat; rw [Nat.zero_add, List.nil_append] at hown5; obtain ⟨va5, vc5, rfl⟩ := owns_slice hown5; have b5 := below_none hgrow (by first | exact BR | exact Below.drew BR); have O5 := Lib.hid hown5; have SS5 := DD.out _ (XH.out _ b5); clear hgrow hat hown5))
                    have HZ0 : Hid (∃ (nx' : Int) (l' : List PK) (du' : Int) (m' : List (Int × List UInt8)) (lD' : List PK) (U' : Nat → Prop) (N' : Nat), WState w wt sb rb mb ms (ms + 1) (k + 1) U' N' nx' l' du' m' lD') := Lib.hid ⟨_, _, _, _, _, _, _, ⟨WA2.out, by have := HWX.out.hN; omega, HWX.out.ord.take nd mord, HWX.out.wait, HWX.out.nod, by have := HWX.out.few; omega⟩⟩
                    clear SS5 SS6 SS7 S0 DD AS OKX XH WA1 WA2 HWX BWX
                    obtain ⟨nx', l', du', m', lD', U', N', hz⟩ := HZ0.out
                    have HZ := Lib.hid hz
                    clear hz HZ0
                    have HZA := Lib.hid (fun (w' : World) (b : Below wt.heap.size wt w') => a_ack (HZ.out.below b).wa)
                    go_wp2_with fail
                    refine (HZA.out _ (Below.refl _ _)).mono ?_
                    rintro e wa ⟨ra, rfl, oa, ba⟩
                    obtain ⟨raa, rac, rfl⟩ := owns_slice oa
                    have BZ1 := Lib.hid ba
                    have OA := Lib.hid oa
                    clear oa ba HZA
                    go_upto_region 35 with fail
                    have hcc := heap_alloc_new wa (.cells #[.int .i64 du', .slice raa (ackMore du' m').length rac] 49)
                    have bcc := wb_alloc wa (.cells #[.int .i64 du', .slice raa (ackMore du' m').length rac] 49)
                    have BZ2 := Lib.hid (below_trans' BZ1.out bcc)
                    have SA := Lib.hid (SliceIs.below (SliceIs.ownedK OA.out) bcc)
                    have HY := Lib.hid (HZ.out.below BZ2.out)
                    obtain ⟨vN, vD, ⟨n1, n2⟩, sN, sD⟩ := HY.out.wa.msc
                    have n3 := HY.out.wa.mrc
                    have SN := Lib.hid sN
                    have hcb := lt_of_block hcc
                    obtain ⟨vNa, vNn, vNc, rfl⟩ : ∃ a n c, vN = .slice a n c := by
                      obtain ⟨_, _, _, e, _⟩ := sN.get
                      exact ⟨_, _, _, e⟩
                    have hak := morR_ack (due := du') HY.out.wait
                    have HAK := Lib.hid hak
                    generalize hwc : wa.alloc (.cells #[.int .i64 du', .slice raa (ackMore du' m').length rac] 49) = wc at *
                    generalize hcbn : wa.heap.size = cb at *
                    have HCC := Lib.hid hcc
                    have N1 := Lib.hid n1
                    have N3 := Lib.hid n3
                    have DD : Hid (∀ w' : World, Below wc.heap.size wc w' → (w'.cell? ⟨ms, 1, none⟩ = some (.slice vNa vNn vNc) ∧ w'.cell? ⟨ms + 1, 0, none⟩ = some (.int .i64 du') ∧ w'.cell? ⟨cb, 0, none⟩ = some (.int .i64 du') ∧ w'.cell? ⟨cb, 1, none⟩ = some (.slice raa (ackMore du' m').length rac)) ∧ Below wc.heap.size wc w') := Lib.hid fun w' b => by
                      have hc := (b.block cb (lt_of_block HCC.out)).trans HCC.out
                      refine ⟨⟨(b.cell (World.block_lt_of_cell? _ _ N1.out)).trans N1.out, (b.cell (World.block_lt_of_cell? _ _ N3.out)).trans N3.out, by simp [World.cell?, hc], by simp [World.cell?, hc]⟩, b⟩
                    have BR := Below.refl wc.heap.size wc
                    have S0 := DD.out wc BR
                    have KE := Lib.hid (fun (w' : World) (b : Below wc.heap.size wc w') => a_kept (HY.out.below b).wa (by have := HY.out.hN; omega))
                    have MO := Lib.hid (fun (w' : World) (b : Below wc.heap.size wc w') => d_more_as (HY.out.below b).wa HY.out.wa.facts.2.1 _ HAK.out)
                    have LL := Lib.hid (fun (w' : World) (b : Below wc.heap.size wc w') => SliceIs.below SN.out b)
                    have LA := Lib.hid (fun (w' : World) (b : Below wc.heap.size wc w') => SliceIs.below SA.out b)
                    have BF := Lib.hid BZ2.out
                    clear n1 n2 n3 sN sD hcc bcc hak HCC SN SA OA BZ1 BZ2 hwc hcbn hcb
                    go_region_held3 (fun w' => (w'.cell? ⟨ms, 1, none⟩ = some (.slice vNa vNn vNc) ∧ w'.cell? ⟨ms + 1, 0, none⟩ = some (.int .i64 du') ∧ w'.cell? ⟨cb, 0, none⟩ = some (.int .i64 du') ∧ w'.cell? ⟨cb, 1, none⟩ = some (.slice raa (ackMore du' m').length rac)) ∧ Below wc.heap.size wc w') (first | assumption | exact S0 | exact DD.out _ (by assumption) | exact DD.out _ (Below.drew BR))
                      (first
                      | (go_at_call 21; refine (KE.out _ ?_).mono ?_; (first | assumption | exact Below.drew BR); rintro e wk ⟨rk, rfl, ok, bk⟩; obtain ⟨ka, kc, rfl⟩ := owns_slice ok; have SLk := Lib.hid (show SliceIs wk (.slice ka l'.length kc) 1 (intV (l'.map PK.n)) from by have := SliceIs.ownedK ok; unfold intV; rw [List.map_map]; exact this); have bbk := below_trans' (by first | assumption | exact Below.drew BR) bk; have SSk := DD.out _ bbk)
                      | (go_at_call 20; (with_reducible refine (sameInts_yes (.slice ka l'.length kc) (.slice vNa vNn vNc) (l'.map PK.n) _ SLk.out (LL.out _ ?_)).mono ?_); assumption; rintro e wl ⟨rfl, bl⟩; have bbl := below_trans' (by assumption) bl; have SSl := DD.out _ bbl)
                      | (go_at_call 16; refine (MO.out _ ?_).mono ?_; (assumption); rintro e wn ⟨rn, rfl, on, bn⟩; obtain ⟨nna, nnc, rfl⟩ := owns_slice on; have SLn := Lib.hid (SliceIs.ownedK on); have bbn := below_trans' (by assumption) bn; have SSn := DD.out _ bbn)
                      | (go_at_call 20; (with_reducible refine (sameInts_yes (.slice raa (ackMore du' m').length rac) (.slice nna (ackMore du' m').length nnc) (ackMore du' m') _ (LA.out _ ?_) SLn.out).mono ?_); assumption; rintro e wo ⟨rfl, bo⟩; have bbo := below_trans' (by assumption) bo; have SSo := DD.out _ bbo))
                    all_goals
                      have HB9 := Lib.hid bbo
                      clear SSk SSl SSn SSo bbk bbl bbn bbo bk bl bn bo ok on S0 BR SLk SLn KE MO LL LA DD
                      go_wp2_with fail
                      go_roundw
                      case rel => exact ⟨k + 1, N', U', nx', l', du', m', lD', by go_num, KK.out, HY.out.below HB9.out⟩
                      case measure => simp [intOf]; omega
                · have hA := Bool.eq_false_iff.2 hA
                  by_cases hO : ((bs kd).toList == [111, 119, 110]) = true
                  · as_aux_lemma =>
                      have hA2 : ((bs kd).toList == [111, 119, 110]) = true := hO
                      go_upto_region 32 with fail
                      have HWX := Lib.hid (HWS.out.below HXB.out)
                      have BWX := Lib.hid (below_trans' BW.out HXB.out)
                      have hlx := lt_of_block HXN.out
                      have HLX := Lib.hid hlx
                      generalize hwx : wr.alloc (.cells #[.string (bs kd), .string (bs sd), .int .i64 nd, .slice ma mord.length mc] 39) = wx at *
                      generalize hxb : wr.heap.size = xb at *
                      obtain ⟨tk, htk⟩ : ∃ tk : Int, tk = (l.length : Int) - (sTake next l due (ackMore due m)).length := ⟨_, rfl⟩
                      have HTK := Lib.hid htk
                      have htq : (tk != tk) = false := by simp
                      have hak := Lib.hid (morR_ack (due := due) HWX.out.wait)
                      have BR := Below.refl wx.heap.size wx
                      have S0 : wx.cell? ⟨ms + 1, 0, none⟩ = some (.int .i64 due) := HWX.out.wa.mrc
                      have AK := Lib.hid (fun (w' : World) (b : Below wx.heap.size wx w') => a_ack (HWX.out.below b).wa)
                      have MR := Lib.hid (fun (w' : World) (b : Below wx.heap.size wx w') => (HWX.out.below b).wa.mrc)
                      clear hwx hxb hlx htk HXB
                      go_region_held3 (fun w' => w'.cell? ⟨ms + 1, 0, none⟩ = some (.int .i64 due)) (first | assumption | exact S0 | exact MR.out _ (Below.drew BR))
                        (first
                        | (go_at_call 15; refine (AK.out _ (by first | exact BR | exact Below.drew BR)).mono ?_; rintro e w5 ⟨r5, rfl, o5, b5⟩; obtain ⟨va5, vc5, rfl⟩ := owns_slice o5; have bb5 := below_trans' (by first | exact BR | exact Below.drew BR) b5; have O5 := Lib.hid o5; have SS5 := MR.out _ bb5; have AP5 := Lib.hid (HWX.out.wa.apart o5 (by first | exact Nat.le_refl _ | exact (Below.drew BR).size)); clear o5 b5)
                        | (go_at_call 13; refine (a_stake _ due (ackMore due m) (HWX.out.below bb5).wa (SliceIs.ownedK O5.out) AP5.out (by have := HWX.out.hN; omega)).mono ?_; rintro e w6 ⟨he, U1, wa1, lat1⟩; rw [← HTK.out] at he; subst he; have SS6 := wa1.mrc; have WA1 := Lib.hid wa1; clear wa1 lat1)
                        | (go_at_call 16; refine (d_more_as WA1.out HWX.out.wa.facts.2.1 _ hak.out).mono ?_; rintro e w7 ⟨r7, rfl, o7, b7⟩; obtain ⟨va7, vc7, rfl⟩ := owns_slice o7; have WA7 := Lib.hid (WA1.out.below b7); have SS7 := WA7.out.mrc; have O7 := Lib.hid (SliceIs.ownedK o7); clear o7 b7)
                        | (go_at_call 14; refine (d_stake _ due (ackMore due m) WA7.out HWX.out.wa.facts.2.2.1 HWX.out.wa.facts.1 O7.out (by have := HWX.out.wa.facts.2.2.2.1; have := HWX.out.hN; omega)).mono ?_; rintro e wt ⟨he, U2, wa2, lat2⟩; rw [← HTK.out] at he; subst he; have SS8 := wa2.mrc; have WA2 := Lib.hid wa2; clear wa2))
                      have HZ0 : Hid (∃ (nx' : Int) (l' : List PK) (du' : Int) (m' : List (Int × List UInt8)) (lD' : List PK) (U' : Nat → Prop) (N' : Nat), WState w wt sb rb mb ms (ms + 1) (k + 1) U' N' nx' l' du' m' lD') := Lib.hid ⟨_, _, _, _, _, _, _, ⟨WA2.out, by have := HWX.out.hN; omega, HWX.out.ord.take due (ackMore due m), HWX.out.wait, HWX.out.nod, by have := HWX.out.few; omega⟩⟩
                      clear S0 SS5 SS6 SS7 SS8 AK MR WA1 WA2 WA7 HWX BWX
                      obtain ⟨nx', l', du', m', lD', U', N', hz⟩ := HZ0.out
                      have HZ := Lib.hid hz
                      clear hz HZ0
                      have HZA := Lib.hid (fun (w' : World) (b : Below wt.heap.size wt w') => a_ack (HZ.out.below b).wa)
                      go_wp2_with fail
                      refine (HZA.out _ (Below.refl _ _)).mono ?_
                      rintro e wa ⟨ra, rfl, oa, ba⟩
                      obtain ⟨raa, rac, rfl⟩ := owns_slice oa
                      have BZ1 := Lib.hid ba
                      have OA := Lib.hid oa
                      clear oa ba HZA
                      go_upto_region 35 with fail
                      have hcc := heap_alloc_new wa (.cells #[.int .i64 du', .slice raa (ackMore du' m').length rac] 49)
                      have bcc := wb_alloc wa (.cells #[.int .i64 du', .slice raa (ackMore du' m').length rac] 49)
                      have BZ2 := Lib.hid (below_trans' BZ1.out bcc)
                      have SA := Lib.hid (SliceIs.below (SliceIs.ownedK OA.out) bcc)
                      have HY := Lib.hid (HZ.out.below BZ2.out)
                      obtain ⟨vN, vD, ⟨n1, n2⟩, sN, sD⟩ := HY.out.wa.msc
                      have n3 := HY.out.wa.mrc
                      have SN := Lib.hid sN
                      have hcb := lt_of_block hcc
                      obtain ⟨vNa, vNn, vNc, rfl⟩ : ∃ a n c, vN = .slice a n c := by
                        obtain ⟨_, _, _, e, _⟩ := sN.get
                        exact ⟨_, _, _, e⟩
                      have hak := morR_ack (due := du') HY.out.wait
                      have HAK := Lib.hid hak
                      generalize hwc : wa.alloc (.cells #[.int .i64 du', .slice raa (ackMore du' m').length rac] 49) = wc at *
                      generalize hcbn : wa.heap.size = cb at *
                      have HCC := Lib.hid hcc
                      have N1 := Lib.hid n1
                      have N3 := Lib.hid n3
                      have DD : Hid (∀ w' : World, Below wc.heap.size wc w' → (w'.cell? ⟨ms, 1, none⟩ = some (.slice vNa vNn vNc) ∧ w'.cell? ⟨ms + 1, 0, none⟩ = some (.int .i64 du') ∧ w'.cell? ⟨cb, 0, none⟩ = some (.int .i64 du') ∧ w'.cell? ⟨cb, 1, none⟩ = some (.slice raa (ackMore du' m').length rac)) ∧ Below wc.heap.size wc w') := Lib.hid fun w' b => by
                        have hc := (b.block cb (lt_of_block HCC.out)).trans HCC.out
                        refine ⟨⟨(b.cell (World.block_lt_of_cell? _ _ N1.out)).trans N1.out, (b.cell (World.block_lt_of_cell? _ _ N3.out)).trans N3.out, by simp [World.cell?, hc], by simp [World.cell?, hc]⟩, b⟩
                      have BR := Below.refl wc.heap.size wc
                      have S0 := DD.out wc BR
                      have KE := Lib.hid (fun (w' : World) (b : Below wc.heap.size wc w') => a_kept (HY.out.below b).wa (by have := HY.out.hN; omega))
                      have MO := Lib.hid (fun (w' : World) (b : Below wc.heap.size wc w') => d_more_as (HY.out.below b).wa HY.out.wa.facts.2.1 _ HAK.out)
                      have LL := Lib.hid (fun (w' : World) (b : Below wc.heap.size wc w') => SliceIs.below SN.out b)
                      have LA := Lib.hid (fun (w' : World) (b : Below wc.heap.size wc w') => SliceIs.below SA.out b)
                      have BF := Lib.hid BZ2.out
                      clear n1 n2 n3 sN sD hcc bcc hak HCC SN SA OA BZ1 BZ2 hwc hcbn hcb
                      go_region_held3 (fun w' => (w'.cell? ⟨ms, 1, none⟩ = some (.slice vNa vNn vNc) ∧ w'.cell? ⟨ms + 1, 0, none⟩ = some (.int .i64 du') ∧ w'.cell? ⟨cb, 0, none⟩ = some (.int .i64 du') ∧ w'.cell? ⟨cb, 1, none⟩ = some (.slice raa (ackMore du' m').length rac)) ∧ Below wc.heap.size wc w') (first | assumption | exact S0 | exact DD.out _ (by assumption) | exact DD.out _ (Below.drew BR))
                        (first
                        | (go_at_call 21; refine (KE.out _ ?_).mono ?_; (first | assumption | exact Below.drew BR); rintro e wk ⟨rk, rfl, ok, bk⟩; obtain ⟨ka, kc, rfl⟩ := owns_slice ok; have SLk := Lib.hid (show SliceIs wk (.slice ka l'.length kc) 1 (intV (l'.map PK.n)) from by have := SliceIs.ownedK ok; unfold intV; rw [List.map_map]; exact this); have bbk := below_trans' (by first | assumption | exact Below.drew BR) bk; have SSk := DD.out _ bbk)
                        | (go_at_call 20; (with_reducible refine (sameInts_yes (.slice ka l'.length kc) (.slice vNa vNn vNc) (l'.map PK.n) _ SLk.out (LL.out _ ?_)).mono ?_); assumption; rintro e wl ⟨rfl, bl⟩; have bbl := below_trans' (by assumption) bl; have SSl := DD.out _ bbl)
                        | (go_at_call 16; refine (MO.out _ ?_).mono ?_; (assumption); rintro e wn ⟨rn, rfl, on, bn⟩; obtain ⟨nna, nnc, rfl⟩ := owns_slice on; have SLn := Lib.hid (SliceIs.ownedK on); have bbn := below_trans' (by assumption) bn; have SSn := DD.out _ bbn)
                        | (go_at_call 20; (with_reducible refine (sameInts_yes (.slice raa (ackMore du' m').length rac) (.slice nna (ackMore du' m').length nnc) (ackMore du' m') _ (LA.out _ ?_) SLn.out).mono ?_); assumption; rintro e wo ⟨rfl, bo⟩; have bbo := below_trans' (by assumption) bo; have SSo := DD.out _ bbo))
                      all_goals
                        have HB9 := Lib.hid bbo
                        clear SSk SSl SSn SSo bbk bbl bbn bbo bk bl bn bo ok on S0 BR SLk SLn KE MO LL LA DD
                        go_wp2_with fail
                        go_roundw
                        case rel => exact ⟨k + 1, N', U', nx', l', du', m', lD', by go_num, KK.out, HY.out.below HB9.out⟩
                        case measure => simp [intOf]; omega
                  · have hO := Bool.eq_false_iff.2 hO
                    · as_aux_lemma =>
                        go_upto_region 20 with fail
                        have HWX := Lib.hid (HWS.out.below HXB.out)
                        have BWX := Lib.hid (below_trans' BW.out HXB.out)
                        have hlx := lt_of_block HXN.out
                        have HLX := Lib.hid hlx
                        generalize hwx : wr.alloc (.cells #[.string (bs kd), .string (bs sd), .int .i64 nd, .slice ma mord.length mc] 39) = wx at *
                        generalize hxb : wr.heap.size = xb at *
                        obtain ⟨Fu, hFu⟩ : ∃ Fu, Fu = m.length + lD.length + 1 := ⟨_, rfl⟩
                        have TS := Lib.hid (take_same (F := Fu) (due := due) HWX.out.wait HWX.out.nod nd sd (by omega))
                        have NL := Lib.hid (show m.length ≤ 80 ∧ lD.length ≤ 80 from ⟨by have := HWX.out.wa.facts.2.2.2.2; have := HWX.out.hN; omega, by have := HWX.out.few; omega⟩)
                        have FU1 := Lib.hid (show lD.length + 1 ≤ Fu ∧ Fu ≤ 10000 from ⟨by omega, by have := NL.out; omega⟩)
                        have BR := Below.refl wx.heap.size wx
                        have DD : Hid (∀ w' : World, w'.heap[xb]? = some (.cells #[.string (bs kd), .string (bs sd), .int .i64 nd, .slice ma mord.length mc] 39 (0, 0)) → (w'.cell? ⟨xb, 2, none⟩ = some (.int .i64 nd) ∧ w'.cell? ⟨xb, 1, none⟩ = some (.string (bs sd))) ∧ w'.heap[xb]? = some (.cells #[.string (bs kd), .string (bs sd), .int .i64 nd, .slice ma mord.length mc] 39 (0, 0))) := Lib.hid fun w' hc => by
                          refine ⟨⟨by simp [World.cell?, hc], by simp [World.cell?, hc]⟩, hc⟩
                        have XH := Lib.hid (fun (w' : World) (b : Below wx.heap.size wx w') => (b.block xb HLX.out).trans HXN.out)
                        have S0 := DD.out wx HXN.out
                        have RT := Lib.hid (fun (w' : World) (b : Below wx.heap.size wx w') => a_rtake2 nd sd (HWX.out.below b).wa OK3.out ok2 (by have := HWX.out.hN; omega))
                        clear hwx hxb hlx HXB hFu
                        go_region_held3 (fun w' => (w'.cell? ⟨xb, 2, none⟩ = some (.int .i64 nd) ∧ w'.cell? ⟨xb, 1, none⟩ = some (.string (bs sd))) ∧ w'.heap[xb]? = some (.cells #[.string (bs kd), .string (bs sd), .int .i64 nd, .slice ma mord.length mc] 39 (0, 0))) (first | assumption | exact S0 | exact DD.out _ (XH.out _ (Below.drew BR)))
                          (first
                          | (go_at_call 18; refine (RT.out _ (by first | exact BR | exact Below.drew BR)).mono ?_; rintro e w5 ⟨r5, rfl, o5, bf5, U1, wa1, lat1⟩; obtain ⟨va5, vc5, rfl⟩ := owns_slice o5; have hx5 := (act_kept (XH.out _ (by first | exact BR | exact Below.drew BR)) lat1 HNU.out); have SS5 := DD.out _ hx5.1; have HNU5 := Lib.hid hx5.2; have WA1 := Lib.hid wa1; have O5 := Lib.hid o5; have BF5 := Lib.hid bf5; clear wa1 lat1 hx5 o5 bf5)
                          | (go_at_call 19; refine (d_rtake2 Fu nd sd WA1.out HWX.out.wa.facts.2.1 ok2 FU1.out.1 FU1.out.2 _ BF5.out).mono ?_; rintro e w6 ⟨r6, rfl, o6, ch6, U2, wa2, lat2⟩; obtain ⟨va6, vc6, rfl⟩ := owns_slice o6; have hx6 := (act_kept SS5.2 lat2 HNU5.out); have SS6 := DD.out _ hx6.1; have WA2 := Lib.hid wa2; have S5 := Lib.hid (SliceIs.ownedK (own_kept O5.out ch6 (fun y hy => hy))); have S6 := Lib.hid (SliceIs.ownedK o6); clear wa2 lat2 hx6 o6 ch6)
                          | (go_at_call 17; refine (sameTexts_yes _ _ (takeR due m nd sd).1 _ S5.out (by rw [← TS.out.1]; exact S6.out)).mono ?_; rintro e wt ⟨rfl, bt⟩; have SS7 := DD.out _ ((bt.block xb (lt_of_block SS6.2)).trans SS6.2); have WA7 := Lib.hid (WA2.out.below bt); clear bt))
                        have HZ0 : Hid (∃ (nx' : Int) (l' : List PK) (du' : Int) (m' : List (Int × List UInt8)) (lD' : List PK) (U' : Nat → Prop) (N' : Nat), WState w wt sb rb mb ms (ms + 1) (k + 1) U' N' nx' l' du' m' lD') := Lib.hid ⟨_, _, _, _, _, _, _, ⟨by have := WA7.out; rw [TS.out.2.1] at this; exact this, by have := HWX.out.hN; omega, HWX.out.ord, TS.out.2.2.1, TS.out.2.2.2.1, by have := TS.out.2.2.2.2; have := HWX.out.few; omega⟩⟩
                        clear S0 SS5 SS6 SS7 S5 S6 RT O5 BF5 XH DD WA1 WA2 WA7 HWX BWX HNU5
                        obtain ⟨nx', l', du', m', lD', U', N', hz⟩ := HZ0.out
                        have HZ := Lib.hid hz
                        clear hz HZ0
                        have HZA := Lib.hid (fun (w' : World) (b : Below wt.heap.size wt w') => a_ack (HZ.out.below b).wa)
                        go_wp2_with fail
                        refine (HZA.out _ (Below.refl _ _)).mono ?_
                        rintro e wa ⟨ra, rfl, oa, ba⟩
                        obtain ⟨raa, rac, rfl⟩ := owns_slice oa
                        have BZ1 := Lib.hid ba
                        have OA := Lib.hid oa
                        clear oa ba HZA
                        go_upto_region 35 with fail
                        have hcc := heap_alloc_new wa (.cells #[.int .i64 du', .slice raa (ackMore du' m').length rac] 49)
                        have bcc := wb_alloc wa (.cells #[.int .i64 du', .slice raa (ackMore du' m').length rac] 49)
                        have BZ2 := Lib.hid (below_trans' BZ1.out bcc)
                        have SA := Lib.hid (SliceIs.below (SliceIs.ownedK OA.out) bcc)
                        have HY := Lib.hid (HZ.out.below BZ2.out)
                        obtain ⟨vN, vD, ⟨n1, n2⟩, sN, sD⟩ := HY.out.wa.msc
                        have n3 := HY.out.wa.mrc
                        have SN := Lib.hid sN
                        have hcb := lt_of_block hcc
                        obtain ⟨vNa, vNn, vNc, rfl⟩ : ∃ a n c, vN = .slice a n c := by
                          obtain ⟨_, _, _, e, _⟩ := sN.get
                          exact ⟨_, _, _, e⟩
                        have hak := morR_ack (due := du') HY.out.wait
                        have HAK := Lib.hid hak
                        generalize hwc : wa.alloc (.cells #[.int .i64 du', .slice raa (ackMore du' m').length rac] 49) = wc at *
                        generalize hcbn : wa.heap.size = cb at *
                        have HCC := Lib.hid hcc
                        have N1 := Lib.hid n1
                        have N3 := Lib.hid n3
                        have DD : Hid (∀ w' : World, Below wc.heap.size wc w' → (w'.cell? ⟨ms, 1, none⟩ = some (.slice vNa vNn vNc) ∧ w'.cell? ⟨ms + 1, 0, none⟩ = some (.int .i64 du') ∧ w'.cell? ⟨cb, 0, none⟩ = some (.int .i64 du') ∧ w'.cell? ⟨cb, 1, none⟩ = some (.slice raa (ackMore du' m').length rac)) ∧ Below wc.heap.size wc w') := Lib.hid fun w' b => by
                          have hc := (b.block cb (lt_of_block HCC.out)).trans HCC.out
                          refine ⟨⟨(b.cell (World.block_lt_of_cell? _ _ N1.out)).trans N1.out, (b.cell (World.block_lt_of_cell? _ _ N3.out)).trans N3.out, by simp [World.cell?, hc], by simp [World.cell?, hc]⟩, b⟩
                        have BR := Below.refl wc.heap.size wc
                        have S0 := DD.out wc BR
                        have KE := Lib.hid (fun (w' : World) (b : Below wc.heap.size wc w') => a_kept (HY.out.below b).wa (by have := HY.out.hN; omega))
                        have MO := Lib.hid (fun (w' : World) (b : Below wc.heap.size wc w') => d_more_as (HY.out.below b).wa HY.out.wa.facts.2.1 _ HAK.out)
                        have LL := Lib.hid (fun (w' : World) (b : Below wc.heap.size wc w') => SliceIs.below SN.out b)
                        have LA := Lib.hid (fun (w' : World) (b : Below wc.heap.size wc w') => SliceIs.below SA.out b)
                        have BF := Lib.hid BZ2.out
                        clear n1 n2 n3 sN sD hcc bcc hak HCC SN SA OA BZ1 BZ2 hwc hcbn hcb
                        go_region_held3 (fun w' => (w'.cell? ⟨ms, 1, none⟩ = some (.slice vNa vNn vNc) ∧ w'.cell? ⟨ms + 1, 0, none⟩ = some (.int .i64 du') ∧ w'.cell? ⟨cb, 0, none⟩ = some (.int .i64 du') ∧ w'.cell? ⟨cb, 1, none⟩ = some (.slice raa (ackMore du' m').length rac)) ∧ Below wc.heap.size wc w') (first | assumption | exact S0 | exact DD.out _ (by assumption) | exact DD.out _ (Below.drew BR))
                          (first
                          | (go_at_call 21; refine (KE.out _ ?_).mono ?_; (first | assumption | exact Below.drew BR); rintro e wk ⟨rk, rfl, ok, bk⟩; obtain ⟨ka, kc, rfl⟩ := owns_slice ok; have SLk := Lib.hid (show SliceIs wk (.slice ka l'.length kc) 1 (intV (l'.map PK.n)) from by have := SliceIs.ownedK ok; unfold intV; rw [List.map_map]; exact this); have bbk := below_trans' (by first | assumption | exact Below.drew BR) bk; have SSk := DD.out _ bbk)
                          | (go_at_call 20; (with_reducible refine (sameInts_yes (.slice ka l'.length kc) (.slice vNa vNn vNc) (l'.map PK.n) _ SLk.out (LL.out _ ?_)).mono ?_); assumption; rintro e wl ⟨rfl, bl⟩; have bbl := below_trans' (by assumption) bl; have SSl := DD.out _ bbl)
                          | (go_at_call 16; refine (MO.out _ ?_).mono ?_; (assumption); rintro e wn ⟨rn, rfl, on, bn⟩; obtain ⟨nna, nnc, rfl⟩ := owns_slice on; have SLn := Lib.hid (SliceIs.ownedK on); have bbn := below_trans' (by assumption) bn; have SSn := DD.out _ bbn)
                          | (go_at_call 20; (with_reducible refine (sameInts_yes (.slice raa (ackMore du' m').length rac) (.slice nna (ackMore du' m').length nnc) (ackMore du' m') _ (LA.out _ ?_) SLn.out).mono ?_); assumption; rintro e wo ⟨rfl, bo⟩; have bbo := below_trans' (by assumption) bo; have SSo := DD.out _ bbo))
                        all_goals
                          have HB9 := Lib.hid bbo
                          clear SSk SSl SSn SSo bbk bbl bbn bbo bk bl bn bo ok on S0 BR SLk SLn KE MO LL LA DD
                          go_wp2_with fail
                          go_roundw
                          case rel => exact ⟨k + 1, N', U', nx', l', du', m', lD', by go_num, KK.out, HY.out.below HB9.out⟩
                          case measure => simp [intOf]; omega
            · have hSI : (60 : Int) < sd.length := by omega
              have hSE : ((sd.length : Int) == 20001) = true := by simp; omega
              have hSN : ((sd.length : Int) != 20001) = false := by simp; omega
              by_cases hP : ((bs kd).toList == [112, 117, 115, 104]) = true
              · as_aux_lemma =>
                  have HWX := Lib.hid (HWS.out.below HXB.out)
                  have PA0 := Lib.hid (a_push E sd HWX.out.wa ok2 H2.out H8.out (by have := HWX.out.hN; have := KK.out; omega))
                  go_wp2_with fail
                  refine PA0.out.mono ?_
                  rintro e wp ⟨rfl, U1, wa1, lat1⟩
                  obtain ⟨hxn1, hnu1⟩ := act_kept HXN.out lat1 HNU.out
                  have HX1 := Lib.hid hxn1
                  have y1 : wp.cell? ⟨wr.heap.size, 1, none⟩ = some (.string (bs sd)) := by simp [World.cell?, hxn1]
                  have WA1 := Lib.hid wa1
                  have DP0 := Lib.hid (d_push sd WA1.out HWX.out.wa.facts.2.2.1 HWX.out.wa.facts.1 ok2 (by have := HWX.out.wa.facts.2.2.2.1; have := HWX.out.hN; have := KK.out; omega))
                  clear hxn1 hnu1 wa1 lat1 PA0 HXN HXB HX1
                  go_wp2_with fail
                  refine DP0.out.mono ?_
                  rintro e wq ⟨rfl, U2, wa2, lat2⟩
                  have WA2 := Lib.hid wa2
                  have CE0 := Lib.hid (coded_ev E (pushC next l sd) wq (HE.out.below WA2.out.bel) (pushC_le next l sd))
                  have hqn : (pushN (pushC next l sd) next != pushN (pushC next l sd) next) = false := by simp
                  clear wa2 lat2 DP0
                  generalize pushN (pushC next l sd) next = pn at *
                  go_wp2_with fail
                  refine CE0.out.mono ?_
                  rintro e wt ⟨rfl, bt⟩
                  have HZ0 : Hid (∃ (nx' : Int) (l' : List PK) (du' : Int) (m' : List (Int × List UInt8)) (lD' : List PK) (U' : Nat → Prop) (N' : Nat), WState w wt sb rb mb ms (ms + 1) (k + 1) U' N' nx' l' du' m' lD') := Lib.hid ⟨_, _, _, _, _, _, _, ⟨WA2.out.below bt, by have := HWX.out.hN; omega, HWX.out.ord.push HWX.out.wa.facts.1 HWX.out.wa.facts.2.2.1 sd, HWX.out.wait, HWX.out.nod, by have := HWX.out.few; omega⟩⟩
                  clear bt CE0 WA1 WA2 HWX HWS
                  obtain ⟨nx', l', du', m', lD', U', N', hz⟩ := HZ0.out
                  have HZ := Lib.hid hz
                  clear hz HZ0
                  have HZA := Lib.hid (fun (w' : World) (b : Below wt.heap.size wt w') => a_ack (HZ.out.below b).wa)
                  go_wp2_with fail
                  refine (HZA.out _ (Below.refl _ _)).mono ?_
                  rintro e wa ⟨ra, rfl, oa, ba⟩
                  obtain ⟨raa, rac, rfl⟩ := owns_slice oa
                  have BZ1 := Lib.hid ba
                  have OA := Lib.hid oa
                  clear oa ba HZA
                  go_upto_region 35 with fail
                  have hcc := heap_alloc_new wa (.cells #[.int .i64 du', .slice raa (ackMore du' m').length rac] 49)
                  have bcc := wb_alloc wa (.cells #[.int .i64 du', .slice raa (ackMore du' m').length rac] 49)
                  have BZ2 := Lib.hid (below_trans' BZ1.out bcc)
                  have SA := Lib.hid (SliceIs.below (SliceIs.ownedK OA.out) bcc)
                  have HY := Lib.hid (HZ.out.below BZ2.out)
                  obtain ⟨vN, vD, ⟨n1, n2⟩, sN, sD⟩ := HY.out.wa.msc
                  have n3 := HY.out.wa.mrc
                  have SN := Lib.hid sN
                  have hcb := lt_of_block hcc
                  obtain ⟨vNa, vNn, vNc, rfl⟩ : ∃ a n c, vN = .slice a n c := by
                    obtain ⟨_, _, _, e, _⟩ := sN.get
                    exact ⟨_, _, _, e⟩
                  have hak := morR_ack (due := du') HY.out.wait
                  have HAK := Lib.hid hak
                  generalize hwc : wa.alloc (.cells #[.int .i64 du', .slice raa (ackMore du' m').length rac] 49) = wc at *
                  generalize hcbn : wa.heap.size = cb at *
                  have HCC := Lib.hid hcc
                  have N1 := Lib.hid n1
                  have N3 := Lib.hid n3
                  have DD : Hid (∀ w' : World, Below wc.heap.size wc w' → (w'.cell? ⟨ms, 1, none⟩ = some (.slice vNa vNn vNc) ∧ w'.cell? ⟨ms + 1, 0, none⟩ = some (.int .i64 du') ∧ w'.cell? ⟨cb, 0, none⟩ = some (.int .i64 du') ∧ w'.cell? ⟨cb, 1, none⟩ = some (.slice raa (ackMore du' m').length rac)) ∧ Below wc.heap.size wc w') := Lib.hid fun w' b => by
                    have hc := (b.block cb (lt_of_block HCC.out)).trans HCC.out
                    refine ⟨⟨(b.cell (World.block_lt_of_cell? _ _ N1.out)).trans N1.out, (b.cell (World.block_lt_of_cell? _ _ N3.out)).trans N3.out, by simp [World.cell?, hc], by simp [World.cell?, hc]⟩, b⟩
                  have BR := Below.refl wc.heap.size wc
                  have S0 := DD.out wc BR
                  have KE := Lib.hid (fun (w' : World) (b : Below wc.heap.size wc w') => a_kept (HY.out.below b).wa (by have := HY.out.hN; omega))
                  have MO := Lib.hid (fun (w' : World) (b : Below wc.heap.size wc w') => d_more_as (HY.out.below b).wa HY.out.wa.facts.2.1 _ HAK.out)
                  have LL := Lib.hid (fun (w' : World) (b : Below wc.heap.size wc w') => SliceIs.below SN.out b)
                  have LA := Lib.hid (fun (w' : World) (b : Below wc.heap.size wc w') => SliceIs.below SA.out b)
                  have BF := Lib.hid BZ2.out
                  clear n1 n2 n3 sN sD hcc bcc hak HCC SN SA OA BZ1 BZ2 hwc hcbn hcb
                  go_region_held3 (fun w' => (w'.cell? ⟨ms, 1, none⟩ = some (.slice vNa vNn vNc) ∧ w'.cell? ⟨ms + 1, 0, none⟩ = some (.int .i64 du') ∧ w'.cell? ⟨cb, 0, none⟩ = some (.int .i64 du') ∧ w'.cell? ⟨cb, 1, none⟩ = some (.slice raa (ackMore du' m').length rac)) ∧ Below wc.heap.size wc w') (first | assumption | exact S0 | exact DD.out _ (by assumption) | exact DD.out _ (Below.drew BR))
                    (first
                    | (go_at_call 21; refine (KE.out _ ?_).mono ?_; (first | assumption | exact Below.drew BR); rintro e wk ⟨rk, rfl, ok, bk⟩; obtain ⟨ka, kc, rfl⟩ := owns_slice ok; have SLk := Lib.hid (show SliceIs wk (.slice ka l'.length kc) 1 (intV (l'.map PK.n)) from by have := SliceIs.ownedK ok; unfold intV; rw [List.map_map]; exact this); have bbk := below_trans' (by first | assumption | exact Below.drew BR) bk; have SSk := DD.out _ bbk)
                    | (go_at_call 20; (with_reducible refine (sameInts_yes (.slice ka l'.length kc) (.slice vNa vNn vNc) (l'.map PK.n) _ SLk.out (LL.out _ ?_)).mono ?_); assumption; rintro e wl ⟨rfl, bl⟩; have bbl := below_trans' (by assumption) bl; have SSl := DD.out _ bbl)
                    | (go_at_call 16; refine (MO.out _ ?_).mono ?_; (assumption); rintro e wn ⟨rn, rfl, on, bn⟩; obtain ⟨nna, nnc, rfl⟩ := owns_slice on; have SLn := Lib.hid (SliceIs.ownedK on); have bbn := below_trans' (by assumption) bn; have SSn := DD.out _ bbn)
                    | (go_at_call 20; (with_reducible refine (sameInts_yes (.slice raa (ackMore du' m').length rac) (.slice nna (ackMore du' m').length nnc) (ackMore du' m') _ (LA.out _ ?_) SLn.out).mono ?_); assumption; rintro e wo ⟨rfl, bo⟩; have bbo := below_trans' (by assumption) bo; have SSo := DD.out _ bbo))
                  all_goals
                    have HB9 := Lib.hid bbo
                    clear SSk SSl SSn SSo bbk bbl bbn bbo bk bl bn bo ok on S0 BR SLk SLn KE MO LL LA DD
                    go_wp2_with fail
                    go_roundw
                    case rel => exact ⟨k + 1, N', U', nx', l', du', m', lD', by go_num, KK.out, HY.out.below HB9.out⟩
                    case measure => simp [intOf]; omega
              · have hP := Bool.eq_false_iff.2 hP
                by_cases hA : ((bs kd).toList == [97, 99, 107]) = true
                · as_aux_lemma =>
                    have hA1 : ((bs kd).toList == [97, 99, 107]) = true := hA
                    go_upto_region 29 with fail
                    have HWX := Lib.hid (HWS.out.below HXB.out)
                    have BWX := Lib.hid (below_trans' BW.out HXB.out)
                    have hlx := lt_of_block HXN.out
                    have HLX := Lib.hid hlx
                    generalize hwx : wr.alloc (.cells #[.string (bs kd), .string (bs sd), .int .i64 nd, .slice ma mord.length mc] 39) = wx at *
                    generalize hxb : wr.heap.size = xb at *
                    obtain ⟨tk, htk⟩ : ∃ tk : Int, tk = (l.length : Int) - (sTake next l nd mord).length := ⟨_, rfl⟩
                    have HTK := Lib.hid htk
                    have htq : (tk != tk) = false := by simp
                    obtain ⟨i0, hi, hz0, hz1, hz2⟩ := info_parts infoInt'
                    have HM1 := Lib.hid (show 0 + mord.length ≤ maxLen by unfold maxLen; omega)
                    have HM2 := Lib.hid (show (0 + mord.length) * 8 ≤ 140737488355328 by omega)
                    have HMC : Hid (∀ u ∈ mord.map (Value.int .i64), u.oneCell' = true) := Lib.hid (fun u hu => by
                      obtain ⟨z, _, rfl⟩ := List.mem_map.1 hu
                      rfl)
                    have DD : Hid (∀ w' : World, w'.heap[xb]? = some (.cells #[.string (bs kd), .string (bs sd), .int .i64 nd, .slice ma mord.length mc] 39 (0, 0)) → (w'.cell? ⟨xb, 2, none⟩ = some (.int .i64 nd) ∧ w'.cell? ⟨xb, 3, none⟩ = some (.slice ma mord.length mc)) ∧ w'.heap[xb]? = some (.cells #[.string (bs kd), .string (bs sd), .int .i64 nd, .slice ma mord.length mc] 39 (0, 0))) := Lib.hid fun w' hc => by
                      refine ⟨⟨by simp [World.cell?, hc], by simp [World.cell?, hc]⟩, hc⟩
                    have BR := Below.refl wx.heap.size wx
                    have S0 := DD.out wx HXN.out
                    have OKX := Lib.hid (fun (w' : World) (b : Below wx.heap.size wx w') => SliceIs.below OK4.out (below_trans' BWX.out b))
                    have XH := Lib.hid (fun (w' : World) (b : Below wx.heap.size wx w') => (b.block xb HLX.out).trans HXN.out)
                    have AS := Lib.hid (fun (v' : Value) (w' w5 : World) (b : Below wx.heap.size wx w5) (ho : w5.ownsRow wx.heap.size 3 1 v' mord.length (mord.map (Value.int .i64))) => a_stake v' nd mord (HWX.out.below b).wa (SliceIs.ownedK ho) (HWX.out.wa.apart ho (Nat.le_refl _)) (by have := HWX.out.hN; omega))
                    clear hwx hxb hlx htk HXB
                    go_region_held3 (fun w' => (w'.cell? ⟨xb, 2, none⟩ = some (.int .i64 nd) ∧ w'.cell? ⟨xb, 3, none⟩ = some (.slice ma mord.length mc)) ∧ w'.heap[xb]? = some (.cells #[.string (bs kd), .string (bs sd), .int .i64 nd, .slice ma mord.length mc] 39 (0, 0))) (first | assumption | exact S0 | exact DD.out _ (XH.out _ (Below.drew BR)))
                      (first
                      | (go_at_call 13; refine (AS.out _ w5 _ b5 O5.out).mono ?_; rintro e w6 ⟨he, U1, wa1, lat1⟩; rw [← HTK.out] at he; subst he; have hx6 := (act_kept SS5.2 lat1 (fun hu => HNU.out hu)); have SS6 := DD.out _ hx6.1; have HNU6 := Lib.hid hx6.2; have WA1 := Lib.hid wa1; clear wa1 lat1 hx6)
                      | (go_at_call 14; refine (d_stake _ nd mord WA1.out HWX.out.wa.facts.2.2.1 HWX.out.wa.facts.1 (SliceIs.below OK4.out WA1.out.bel) (by have := HWX.out.wa.facts.2.2.2.1; have := HWX.out.hN; omega)).mono ?_; rintro e wt ⟨he, U2, wa2, lat2⟩; rw [← HTK.out] at he; subst he; have hx7 := (act_kept SS6.2 lat2 HNU6.out).1; have SS7 := DD.out _ hx7; have WA2 := Lib.hid wa2; clear wa2 hx7)
                      | (refine step_append_is rfl (.tmp 135) (.tmp 137) 31 rfl wx.heap.size 3 i0 _ 1 8 Tryd.underlying31 hi hz0 hz1 hz2 rfl (by decide) (.slice none 0 0) 0 [] rfl (World.ownsRow_nil _ _ _ _) (.slice ma mord.length mc) mord.length (mord.map (Value.int .i64)) rfl (OKX.out _ (by first | assumption | exact Below.drew BR)) (by simp) HMC.out HM1.out HM2.out (by first | exact Nat.le_refl _ | exact (Below.drew BR).size) ?_; intro v' w5 hown5 hgrow hat; rw [Nat.zero_add, List.nil_append] at hown5; obtain ⟨va5, vc5, rfl⟩ := owns_slice hown5; have b5 := below_none hgrow (by first | exact BR | exact Below.drew BR); have O5 := Lib.hid hown5; have SS5 := DD.out _ (XH.out _ b5); clear hgrow hat hown5))
                    have HZ0 : Hid (∃ (nx' : Int) (l' : List PK) (du' : Int) (m' : List (Int × List UInt8)) (lD' : List PK) (U' : Nat → Prop) (N' : Nat), WState w wt sb rb mb ms (ms + 1) (k + 1) U' N' nx' l' du' m' lD') := Lib.hid ⟨_, _, _, _, _, _, _, ⟨WA2.out, by have := HWX.out.hN; omega, HWX.out.ord.take nd mord, HWX.out.wait, HWX.out.nod, by have := HWX.out.few; omega⟩⟩
                    clear SS5 SS6 SS7 S0 DD AS OKX XH WA1 WA2 HWX BWX
                    obtain ⟨nx', l', du', m', lD', U', N', hz⟩ := HZ0.out
                    have HZ := Lib.hid hz
                    clear hz HZ0
                    have HZA := Lib.hid (fun (w' : World) (b : Below wt.heap.size wt w') => a_ack (HZ.out.below b).wa)
                    go_wp2_with fail
                    refine (HZA.out _ (Below.refl _ _)).mono ?_
                    rintro e wa ⟨ra, rfl, oa, ba⟩
                    obtain ⟨raa, rac, rfl⟩ := owns_slice oa
                    have BZ1 := Lib.hid ba
                    have OA := Lib.hid oa
                    clear oa ba HZA
                    go_upto_region 35 with fail
                    have hcc := heap_alloc_new wa (.cells #[.int .i64 du', .slice raa (ackMore du' m').length rac] 49)
                    have bcc := wb_alloc wa (.cells #[.int .i64 du', .slice raa (ackMore du' m').length rac] 49)
                    have BZ2 := Lib.hid (below_trans' BZ1.out bcc)
                    have SA := Lib.hid (SliceIs.below (SliceIs.ownedK OA.out) bcc)
                    have HY := Lib.hid (HZ.out.below BZ2.out)
                    obtain ⟨vN, vD, ⟨n1, n2⟩, sN, sD⟩ := HY.out.wa.msc
                    have n3 := HY.out.wa.mrc
                    have SN := Lib.hid sN
                    have hcb := lt_of_block hcc
                    obtain ⟨vNa, vNn, vNc, rfl⟩ : ∃ a n c, vN = .slice a n c := by
                      obtain ⟨_, _, _, e, _⟩ := sN.get
                      exact ⟨_, _, _, e⟩
                    have hak := morR_ack (due := du') HY.out.wait
                    have HAK := Lib.hid hak
                    generalize hwc : wa.alloc (.cells #[.int .i64 du', .slice raa (ackMore du' m').length rac] 49) = wc at *
                    generalize hcbn : wa.heap.size = cb at *
                    have HCC := Lib.hid hcc
                    have N1 := Lib.hid n1
                    have N3 := Lib.hid n3
                    have DD : Hid (∀ w' : World, Below wc.heap.size wc w' → (w'.cell? ⟨ms, 1, none⟩ = some (.slice vNa vNn vNc) ∧ w'.cell? ⟨ms + 1, 0, none⟩ = some (.int .i64 du') ∧ w'.cell? ⟨cb, 0, none⟩ = some (.int .i64 du') ∧ w'.cell? ⟨cb, 1, none⟩ = some (.slice raa (ackMore du' m').length rac)) ∧ Below wc.heap.size wc w') := Lib.hid fun w' b => by
                      have hc := (b.block cb (lt_of_block HCC.out)).trans HCC.out
                      refine ⟨⟨(b.cell (World.block_lt_of_cell? _ _ N1.out)).trans N1.out, (b.cell (World.block_lt_of_cell? _ _ N3.out)).trans N3.out, by simp [World.cell?, hc], by simp [World.cell?, hc]⟩, b⟩
                    have BR := Below.refl wc.heap.size wc
                    have S0 := DD.out wc BR
                    have KE := Lib.hid (fun (w' : World) (b : Below wc.heap.size wc w') => a_kept (HY.out.below b).wa (by have := HY.out.hN; omega))
                    have MO := Lib.hid (fun (w' : World) (b : Below wc.heap.size wc w') => d_more_as (HY.out.below b).wa HY.out.wa.facts.2.1 _ HAK.out)
                    have LL := Lib.hid (fun (w' : World) (b : Below wc.heap.size wc w') => SliceIs.below SN.out b)
                    have LA := Lib.hid (fun (w' : World) (b : Below wc.heap.size wc w') => SliceIs.below SA.out b)
                    have BF := Lib.hid BZ2.out
                    clear n1 n2 n3 sN sD hcc bcc hak HCC SN SA OA BZ1 BZ2 hwc hcbn hcb
                    go_region_held3 (fun w' => (w'.cell? ⟨ms, 1, none⟩ = some (.slice vNa vNn vNc) ∧ w'.cell? ⟨ms + 1, 0, none⟩ = some (.int .i64 du') ∧ w'.cell? ⟨cb, 0, none⟩ = some (.int .i64 du') ∧ w'.cell? ⟨cb, 1, none⟩ = some (.slice raa (ackMore du' m').length rac)) ∧ Below wc.heap.size wc w') (first | assumption | exact S0 | exact DD.out _ (by assumption) | exact DD.out _ (Below.drew BR))
                      (first
                      | (go_at_call 21; refine (KE.out _ ?_).mono ?_; (first | assumption | exact Below.drew BR); rintro e wk ⟨rk, rfl, ok, bk⟩; obtain ⟨ka, kc, rfl⟩ := owns_slice ok; have SLk := Lib.hid (show SliceIs wk (.slice ka l'.length kc) 1 (intV (l'.map PK.n)) from by have := SliceIs.ownedK ok; unfold intV; rw [List.map_map]; exact this); have bbk := below_trans' (by first | assumption | exact Below.drew BR) bk; have SSk := DD.out _ bbk)
                      | (go_at_call 20; (with_reducible refine (sameInts_yes (.slice ka l'.length kc) (.slice vNa vNn vNc) (l'.map PK.n) _ SLk.out (LL.out _ ?_)).mono ?_); assumption; rintro e wl ⟨rfl, bl⟩; have bbl := below_trans' (by assumption) bl; have SSl := DD.out _ bbl)
                      | (go_at_call 16; refine (MO.out _ ?_).mono ?_; (assumption); rintro e wn ⟨rn, rfl, on, bn⟩; obtain ⟨nna, nnc, rfl⟩ := owns_slice on; have SLn := Lib.hid (SliceIs.ownedK on); have bbn := below_trans' (by assumption) bn; have SSn := DD.out _ bbn)
                      | (go_at_call 20; (with_reducible refine (sameInts_yes (.slice raa (ackMore du' m').length rac) (.slice nna (ackMore du' m').length nnc) (ackMore du' m') _ (LA.out _ ?_) SLn.out).mono ?_); assumption; rintro e wo ⟨rfl, bo⟩; have bbo := below_trans' (by assumption) bo; have SSo := DD.out _ bbo))
                    all_goals
                      have HB9 := Lib.hid bbo
                      clear SSk SSl SSn SSo bbk bbl bbn bbo bk bl bn bo ok on S0 BR SLk SLn KE MO LL LA DD
                      go_wp2_with fail
                      go_roundw
                      case rel => exact ⟨k + 1, N', U', nx', l', du', m', lD', by go_num, KK.out, HY.out.below HB9.out⟩
                      case measure => simp [intOf]; omega
                · have hA := Bool.eq_false_iff.2 hA
                  by_cases hO : ((bs kd).toList == [111, 119, 110]) = true
                  · as_aux_lemma =>
                      have hA2 : ((bs kd).toList == [111, 119, 110]) = true := hO
                      go_upto_region 32 with fail
                      have HWX := Lib.hid (HWS.out.below HXB.out)
                      have BWX := Lib.hid (below_trans' BW.out HXB.out)
                      have hlx := lt_of_block HXN.out
                      have HLX := Lib.hid hlx
                      generalize hwx : wr.alloc (.cells #[.string (bs kd), .string (bs sd), .int .i64 nd, .slice ma mord.length mc] 39) = wx at *
                      generalize hxb : wr.heap.size = xb at *
                      obtain ⟨tk, htk⟩ : ∃ tk : Int, tk = (l.length : Int) - (sTake next l due (ackMore due m)).length := ⟨_, rfl⟩
                      have HTK := Lib.hid htk
                      have htq : (tk != tk) = false := by simp
                      have hak := Lib.hid (morR_ack (due := due) HWX.out.wait)
                      have BR := Below.refl wx.heap.size wx
                      have S0 : wx.cell? ⟨ms + 1, 0, none⟩ = some (.int .i64 due) := HWX.out.wa.mrc
                      have AK := Lib.hid (fun (w' : World) (b : Below wx.heap.size wx w') => a_ack (HWX.out.below b).wa)
                      have MR := Lib.hid (fun (w' : World) (b : Below wx.heap.size wx w') => (HWX.out.below b).wa.mrc)
                      clear hwx hxb hlx htk HXB
                      go_region_held3 (fun w' => w'.cell? ⟨ms + 1, 0, none⟩ = some (.int .i64 due)) (first | assumption | exact S0 | exact MR.out _ (Below.drew BR))
                        (first
                        | (go_at_call 15; refine (AK.out _ (by first | exact BR | exact Below.drew BR)).mono ?_; rintro e w5 ⟨r5, rfl, o5, b5⟩; obtain ⟨va5, vc5, rfl⟩ := owns_slice o5; have bb5 := below_trans' (by first | exact BR | exact Below.drew BR) b5; have O5 := Lib.hid o5; have SS5 := MR.out _ bb5; have AP5 := Lib.hid (HWX.out.wa.apart o5 (by first | exact Nat.le_refl _ | exact (Below.drew BR).size)); clear o5 b5)
                        | (go_at_call 13; refine (a_stake _ due (ackMore due m) (HWX.out.below bb5).wa (SliceIs.ownedK O5.out) AP5.out (by have := HWX.out.hN; omega)).mono ?_; rintro e w6 ⟨he, U1, wa1, lat1⟩; rw [← HTK.out] at he; subst he; have SS6 := wa1.mrc; have WA1 := Lib.hid wa1; clear wa1 lat1)
                        | (go_at_call 16; refine (d_more_as WA1.out HWX.out.wa.facts.2.1 _ hak.out).mono ?_; rintro e w7 ⟨r7, rfl, o7, b7⟩; obtain ⟨va7, vc7, rfl⟩ := owns_slice o7; have WA7 := Lib.hid (WA1.out.below b7); have SS7 := WA7.out.mrc; have O7 := Lib.hid (SliceIs.ownedK o7); clear o7 b7)
                        | (go_at_call 14; refine (d_stake _ due (ackMore due m) WA7.out HWX.out.wa.facts.2.2.1 HWX.out.wa.facts.1 O7.out (by have := HWX.out.wa.facts.2.2.2.1; have := HWX.out.hN; omega)).mono ?_; rintro e wt ⟨he, U2, wa2, lat2⟩; rw [← HTK.out] at he; subst he; have SS8 := wa2.mrc; have WA2 := Lib.hid wa2; clear wa2))
                      have HZ0 : Hid (∃ (nx' : Int) (l' : List PK) (du' : Int) (m' : List (Int × List UInt8)) (lD' : List PK) (U' : Nat → Prop) (N' : Nat), WState w wt sb rb mb ms (ms + 1) (k + 1) U' N' nx' l' du' m' lD') := Lib.hid ⟨_, _, _, _, _, _, _, ⟨WA2.out, by have := HWX.out.hN; omega, HWX.out.ord.take due (ackMore due m), HWX.out.wait, HWX.out.nod, by have := HWX.out.few; omega⟩⟩
                      clear S0 SS5 SS6 SS7 SS8 AK MR WA1 WA2 WA7 HWX BWX
                      obtain ⟨nx', l', du', m', lD', U', N', hz⟩ := HZ0.out
                      have HZ := Lib.hid hz
                      clear hz HZ0
                      have HZA := Lib.hid (fun (w' : World) (b : Below wt.heap.size wt w') => a_ack (HZ.out.below b).wa)
                      go_wp2_with fail
                      refine (HZA.out _ (Below.refl _ _)).mono ?_
                      rintro e wa ⟨ra, rfl, oa, ba⟩
                      obtain ⟨raa, rac, rfl⟩ := owns_slice oa
                      have BZ1 := Lib.hid ba
                      have OA := Lib.hid oa
                      clear oa ba HZA
                      go_upto_region 35 with fail
                      have hcc := heap_alloc_new wa (.cells #[.int .i64 du', .slice raa (ackMore du' m').length rac] 49)
                      have bcc := wb_alloc wa (.cells #[.int .i64 du', .slice raa (ackMore du' m').length rac] 49)
                      have BZ2 := Lib.hid (below_trans' BZ1.out bcc)
                      have SA := Lib.hid (SliceIs.below (SliceIs.ownedK OA.out) bcc)
                      have HY := Lib.hid (HZ.out.below BZ2.out)
                      obtain ⟨vN, vD, ⟨n1, n2⟩, sN, sD⟩ := HY.out.wa.msc
                      have n3 := HY.out.wa.mrc
                      have SN := Lib.hid sN
                      have hcb := lt_of_block hcc
                      obtain ⟨vNa, vNn, vNc, rfl⟩ : ∃ a n c, vN = .slice a n c := by
                        obtain ⟨_, _, _, e, _⟩ := sN.get
                        exact ⟨_, _, _, e⟩
                      have hak := morR_ack (due := du') HY.out.wait
                      have HAK := Lib.hid hak
                      generalize hwc : wa.alloc (.cells #[.int .i64 du', .slice raa (ackMore du' m').length rac] 49) = wc at *
                      generalize hcbn : wa.heap.size = cb at *
                      have HCC := Lib.hid hcc
                      have N1 := Lib.hid n1
                      have N3 := Lib.hid n3
                      have DD : Hid (∀ w' : World, Below wc.heap.size wc w' → (w'.cell? ⟨ms, 1, none⟩ = some (.slice vNa vNn vNc) ∧ w'.cell? ⟨ms + 1, 0, none⟩ = some (.int .i64 du') ∧ w'.cell? ⟨cb, 0, none⟩ = some (.int .i64 du') ∧ w'.cell? ⟨cb, 1, none⟩ = some (.slice raa (ackMore du' m').length rac)) ∧ Below wc.heap.size wc w') := Lib.hid fun w' b => by
                        have hc := (b.block cb (lt_of_block HCC.out)).trans HCC.out
                        refine ⟨⟨(b.cell (World.block_lt_of_cell? _ _ N1.out)).trans N1.out, (b.cell (World.block_lt_of_cell? _ _ N3.out)).trans N3.out, by simp [World.cell?, hc], by simp [World.cell?, hc]⟩, b⟩
                      have BR := Below.refl wc.heap.size wc
                      have S0 := DD.out wc BR
                      have KE := Lib.hid (fun (w' : World) (b : Below wc.heap.size wc w') => a_kept (HY.out.below b).wa (by have := HY.out.hN; omega))
                      have MO := Lib.hid (fun (w' : World) (b : Below wc.heap.size wc w') => d_more_as (HY.out.below b).wa HY.out.wa.facts.2.1 _ HAK.out)
                      have LL := Lib.hid (fun (w' : World) (b : Below wc.heap.size wc w') => SliceIs.below SN.out b)
                      have LA := Lib.hid (fun (w' : World) (b : Below wc.heap.size wc w') => SliceIs.below SA.out b)
                      have BF := Lib.hid BZ2.out
                      clear n1 n2 n3 sN sD hcc bcc hak HCC SN SA OA BZ1 BZ2 hwc hcbn hcb
                      go_region_held3 (fun w' => (w'.cell? ⟨ms, 1, none⟩ = some (.slice vNa vNn vNc) ∧ w'.cell? ⟨ms + 1, 0, none⟩ = some (.int .i64 du') ∧ w'.cell? ⟨cb, 0, none⟩ = some (.int .i64 du') ∧ w'.cell? ⟨cb, 1, none⟩ = some (.slice raa (ackMore du' m').length rac)) ∧ Below wc.heap.size wc w') (first | assumption | exact S0 | exact DD.out _ (by assumption) | exact DD.out _ (Below.drew BR))
                        (first
                        | (go_at_call 21; refine (KE.out _ ?_).mono ?_; (first | assumption | exact Below.drew BR); rintro e wk ⟨rk, rfl, ok, bk⟩; obtain ⟨ka, kc, rfl⟩ := owns_slice ok; have SLk := Lib.hid (show SliceIs wk (.slice ka l'.length kc) 1 (intV (l'.map PK.n)) from by have := SliceIs.ownedK ok; unfold intV; rw [List.map_map]; exact this); have bbk := below_trans' (by first | assumption | exact Below.drew BR) bk; have SSk := DD.out _ bbk)
                        | (go_at_call 20; (with_reducible refine (sameInts_yes (.slice ka l'.length kc) (.slice vNa vNn vNc) (l'.map PK.n) _ SLk.out (LL.out _ ?_)).mono ?_); assumption; rintro e wl ⟨rfl, bl⟩; have bbl := below_trans' (by assumption) bl; have SSl := DD.out _ bbl)
                        | (go_at_call 16; refine (MO.out _ ?_).mono ?_; (assumption); rintro e wn ⟨rn, rfl, on, bn⟩; obtain ⟨nna, nnc, rfl⟩ := owns_slice on; have SLn := Lib.hid (SliceIs.ownedK on); have bbn := below_trans' (by assumption) bn; have SSn := DD.out _ bbn)
                        | (go_at_call 20; (with_reducible refine (sameInts_yes (.slice raa (ackMore du' m').length rac) (.slice nna (ackMore du' m').length nnc) (ackMore du' m') _ (LA.out _ ?_) SLn.out).mono ?_); assumption; rintro e wo ⟨rfl, bo⟩; have bbo := below_trans' (by assumption) bo; have SSo := DD.out _ bbo))
                      all_goals
                        have HB9 := Lib.hid bbo
                        clear SSk SSl SSn SSo bbk bbl bbn bbo bk bl bn bo ok on S0 BR SLk SLn KE MO LL LA DD
                        go_wp2_with fail
                        go_roundw
                        case rel => exact ⟨k + 1, N', U', nx', l', du', m', lD', by go_num, KK.out, HY.out.below HB9.out⟩
                        case measure => simp [intOf]; omega
                  · have hO := Bool.eq_false_iff.2 hO
                    · as_aux_lemma =>
                        go_upto_region 20 with fail
                        have HWX := Lib.hid (HWS.out.below HXB.out)
                        have BWX := Lib.hid (below_trans' BW.out HXB.out)
                        have hlx := lt_of_block HXN.out
                        have HLX := Lib.hid hlx
                        generalize hwx : wr.alloc (.cells #[.string (bs kd), .string (bs sd), .int .i64 nd, .slice ma mord.length mc] 39) = wx at *
                        generalize hxb : wr.heap.size = xb at *
                        obtain ⟨Fu, hFu⟩ : ∃ Fu, Fu = m.length + lD.length + 1 := ⟨_, rfl⟩
                        have TS := Lib.hid (take_same (F := Fu) (due := due) HWX.out.wait HWX.out.nod nd sd (by omega))
                        have NL := Lib.hid (show m.length ≤ 80 ∧ lD.length ≤ 80 from ⟨by have := HWX.out.wa.facts.2.2.2.2; have := HWX.out.hN; omega, by have := HWX.out.few; omega⟩)
                        have FU1 := Lib.hid (show lD.length + 1 ≤ Fu ∧ Fu ≤ 10000 from ⟨by omega, by have := NL.out; omega⟩)
                        have BR := Below.refl wx.heap.size wx
                        have DD : Hid (∀ w' : World, w'.heap[xb]? = some (.cells #[.string (bs kd), .string (bs sd), .int .i64 nd, .slice ma mord.length mc] 39 (0, 0)) → (w'.cell? ⟨xb, 2, none⟩ = some (.int .i64 nd) ∧ w'.cell? ⟨xb, 1, none⟩ = some (.string (bs sd))) ∧ w'.heap[xb]? = some (.cells #[.string (bs kd), .string (bs sd), .int .i64 nd, .slice ma mord.length mc] 39 (0, 0))) := Lib.hid fun w' hc => by
                          refine ⟨⟨by simp [World.cell?, hc], by simp [World.cell?, hc]⟩, hc⟩
                        have XH := Lib.hid (fun (w' : World) (b : Below wx.heap.size wx w') => (b.block xb HLX.out).trans HXN.out)
                        have S0 := DD.out wx HXN.out
                        have RT := Lib.hid (fun (w' : World) (b : Below wx.heap.size wx w') => a_rtake2 nd sd (HWX.out.below b).wa OK3.out ok2 (by have := HWX.out.hN; omega))
                        clear hwx hxb hlx HXB hFu
                        go_region_held3 (fun w' => (w'.cell? ⟨xb, 2, none⟩ = some (.int .i64 nd) ∧ w'.cell? ⟨xb, 1, none⟩ = some (.string (bs sd))) ∧ w'.heap[xb]? = some (.cells #[.string (bs kd), .string (bs sd), .int .i64 nd, .slice ma mord.length mc] 39 (0, 0))) (first | assumption | exact S0 | exact DD.out _ (XH.out _ (Below.drew BR)))
                          (first
                          | (go_at_call 18; refine (RT.out _ (by first | exact BR | exact Below.drew BR)).mono ?_; rintro e w5 ⟨r5, rfl, o5, bf5, U1, wa1, lat1⟩; obtain ⟨va5, vc5, rfl⟩ := owns_slice o5; have hx5 := (act_kept (XH.out _ (by first | exact BR | exact Below.drew BR)) lat1 HNU.out); have SS5 := DD.out _ hx5.1; have HNU5 := Lib.hid hx5.2; have WA1 := Lib.hid wa1; have O5 := Lib.hid o5; have BF5 := Lib.hid bf5; clear wa1 lat1 hx5 o5 bf5)
                          | (go_at_call 19; refine (d_rtake2 Fu nd sd WA1.out HWX.out.wa.facts.2.1 ok2 FU1.out.1 FU1.out.2 _ BF5.out).mono ?_; rintro e w6 ⟨r6, rfl, o6, ch6, U2, wa2, lat2⟩; obtain ⟨va6, vc6, rfl⟩ := owns_slice o6; have hx6 := (act_kept SS5.2 lat2 HNU5.out); have SS6 := DD.out _ hx6.1; have WA2 := Lib.hid wa2; have S5 := Lib.hid (SliceIs.ownedK (own_kept O5.out ch6 (fun y hy => hy))); have S6 := Lib.hid (SliceIs.ownedK o6); clear wa2 lat2 hx6 o6 ch6)
                          | (go_at_call 17; refine (sameTexts_yes _ _ (takeR due m nd sd).1 _ S5.out (by rw [← TS.out.1]; exact S6.out)).mono ?_; rintro e wt ⟨rfl, bt⟩; have SS7 := DD.out _ ((bt.block xb (lt_of_block SS6.2)).trans SS6.2); have WA7 := Lib.hid (WA2.out.below bt); clear bt))
                        have HZ0 : Hid (∃ (nx' : Int) (l' : List PK) (du' : Int) (m' : List (Int × List UInt8)) (lD' : List PK) (U' : Nat → Prop) (N' : Nat), WState w wt sb rb mb ms (ms + 1) (k + 1) U' N' nx' l' du' m' lD') := Lib.hid ⟨_, _, _, _, _, _, _, ⟨by have := WA7.out; rw [TS.out.2.1] at this; exact this, by have := HWX.out.hN; omega, HWX.out.ord, TS.out.2.2.1, TS.out.2.2.2.1, by have := TS.out.2.2.2.2; have := HWX.out.few; omega⟩⟩
                        clear S0 SS5 SS6 SS7 S5 S6 RT O5 BF5 XH DD WA1 WA2 WA7 HWX BWX HNU5
                        obtain ⟨nx', l', du', m', lD', U', N', hz⟩ := HZ0.out
                        have HZ := Lib.hid hz
                        clear hz HZ0
                        have HZA := Lib.hid (fun (w' : World) (b : Below wt.heap.size wt w') => a_ack (HZ.out.below b).wa)
                        go_wp2_with fail
                        refine (HZA.out _ (Below.refl _ _)).mono ?_
                        rintro e wa ⟨ra, rfl, oa, ba⟩
                        obtain ⟨raa, rac, rfl⟩ := owns_slice oa
                        have BZ1 := Lib.hid ba
                        have OA := Lib.hid oa
                        clear oa ba HZA
                        go_upto_region 35 with fail
                        have hcc := heap_alloc_new wa (.cells #[.int .i64 du', .slice raa (ackMore du' m').length rac] 49)
                        have bcc := wb_alloc wa (.cells #[.int .i64 du', .slice raa (ackMore du' m').length rac] 49)
                        have BZ2 := Lib.hid (below_trans' BZ1.out bcc)
                        have SA := Lib.hid (SliceIs.below (SliceIs.ownedK OA.out) bcc)
                        have HY := Lib.hid (HZ.out.below BZ2.out)
                        obtain ⟨vN, vD, ⟨n1, n2⟩, sN, sD⟩ := HY.out.wa.msc
                        have n3 := HY.out.wa.mrc
                        have SN := Lib.hid sN
                        have hcb := lt_of_block hcc
                        obtain ⟨vNa, vNn, vNc, rfl⟩ : ∃ a n c, vN = .slice a n c := by
                          obtain ⟨_, _, _, e, _⟩ := sN.get
                          exact ⟨_, _, _, e⟩
                        have hak := morR_ack (due := du') HY.out.wait
                        have HAK := Lib.hid hak
                        generalize hwc : wa.alloc (.cells #[.int .i64 du', .slice raa (ackMore du' m').length rac] 49) = wc at *
                        generalize hcbn : wa.heap.size = cb at *
                        have HCC := Lib.hid hcc
                        have N1 := Lib.hid n1
                        have N3 := Lib.hid n3
                        have DD : Hid (∀ w' : World, Below wc.heap.size wc w' → (w'.cell? ⟨ms, 1, none⟩ = some (.slice vNa vNn vNc) ∧ w'.cell? ⟨ms + 1, 0, none⟩ = some (.int .i64 du') ∧ w'.cell? ⟨cb, 0, none⟩ = some (.int .i64 du') ∧ w'.cell? ⟨cb, 1, none⟩ = some (.slice raa (ackMore du' m').length rac)) ∧ Below wc.heap.size wc w') := Lib.hid fun w' b => by
                          have hc := (b.block cb (lt_of_block HCC.out)).trans HCC.out
                          refine ⟨⟨(b.cell (World.block_lt_of_cell? _ _ N1.out)).trans N1.out, (b.cell (World.block_lt_of_cell? _ _ N3.out)).trans N3.out, by simp [World.cell?, hc], by simp [World.cell?, hc]⟩, b⟩
                        have BR := Below.refl wc.heap.size wc
                        have S0 := DD.out wc BR
                        have KE := Lib.hid (fun (w' : World) (b : Below wc.heap.size wc w') => a_kept (HY.out.below b).wa (by have := HY.out.hN; omega))
                        have MO := Lib.hid (fun (w' : World) (b : Below wc.heap.size wc w') => d_more_as (HY.out.below b).wa HY.out.wa.facts.2.1 _ HAK.out)
                        have LL := Lib.hid (fun (w' : World) (b : Below wc.heap.size wc w') => SliceIs.below SN.out b)
                        have LA := Lib.hid (fun (w' : World) (b : Below wc.heap.size wc w') => SliceIs.below SA.out b)
                        have BF := Lib.hid BZ2.out
                        clear n1 n2 n3 sN sD hcc bcc hak HCC SN SA OA BZ1 BZ2 hwc hcbn hcb
                        go_region_held3 (fun w' => (w'.cell? ⟨ms, 1, none⟩ = some (.slice vNa vNn vNc) ∧ w'.cell? ⟨ms + 1, 0, none⟩ = some (.int .i64 du') ∧ w'.cell? ⟨cb, 0, none⟩ = some (.int .i64 du') ∧ w'.cell? ⟨cb, 1, none⟩ = some (.slice raa (ackMore du' m').length rac)) ∧ Below wc.heap.size wc w') (first | assumption | exact S0 | exact DD.out _ (by assumption) | exact DD.out _ (Below.drew BR))
                          (first
                          | (go_at_call 21; refine (KE.out _ ?_).mono ?_; (first | assumption | exact Below.drew BR); rintro e wk ⟨rk, rfl, ok, bk⟩; obtain ⟨ka, kc, rfl⟩ := owns_slice ok; have SLk := Lib.hid (show SliceIs wk (.slice ka l'.length kc) 1 (intV (l'.map PK.n)) from by have := SliceIs.ownedK ok; unfold intV; rw [List.map_map]; exact this); have bbk := below_trans' (by first | assumption | exact Below.drew BR) bk; have SSk := DD.out _ bbk)
                          | (go_at_call 20; (with_reducible refine (sameInts_yes (.slice ka l'.length kc) (.slice vNa vNn vNc) (l'.map PK.n) _ SLk.out (LL.out _ ?_)).mono ?_); assumption; rintro e wl ⟨rfl, bl⟩; have bbl := below_trans' (by assumption) bl; have SSl := DD.out _ bbl)
                          | (go_at_call 16; refine (MO.out _ ?_).mono ?_; (assumption); rintro e wn ⟨rn, rfl, on, bn⟩; obtain ⟨nna, nnc, rfl⟩ := owns_slice on; have SLn := Lib.hid (SliceIs.ownedK on); have bbn := below_trans' (by assumption) bn; have SSn := DD.out _ bbn)
                          | (go_at_call 20; (with_reducible refine (sameInts_yes (.slice raa (ackMore du' m').length rac) (.slice nna (ackMore du' m').length nnc) (ackMore du' m') _ (LA.out _ ?_) SLn.out).mono ?_); assumption; rintro e wo ⟨rfl, bo⟩; have bbo := below_trans' (by assumption) bo; have SSo := DD.out _ bbo))
                        all_goals
                          have HB9 := Lib.hid bbo
                          clear SSk SSl SSn SSo bbk bbl bbn bbo bk bl bn bo ok on S0 BR SLk SLn KE MO LL LA DD
                          go_wp2_with fail
                          go_roundw
                          case rel => exact ⟨k + 1, N', U', nx', l', du', m', lD', by go_num, KK.out, HY.out.below HB9.out⟩
                          case measure => simp [intOf]; omega
          · have hMI : (40 : Int) < mord.length := by omega
            rcases hS with hS | hS
            · have hSI : ¬ (60 : Int) < sd.length := by omega
              go_wp2_with fail
              go_ret
              exact ⟨rfl, BW.out.alloc BW.out.size _⟩
            · have hSI : (60 : Int) < sd.length := by omega
              have hSE : ((sd.length : Int) == 20001) = true := by simp; omega
              have hSN : ((sd.length : Int) != 20001) = false := by simp; omega
              go_wp2_with fail
              go_ret
              exact ⟨rfl, BW.out.alloc BW.out.size _⟩
        · have hSI : (60 : Int) < sd.length := by omega
          have hSE : ((sd.length : Int) == 20001) = false := by simp; omega
          have hSN : ((sd.length : Int) != 20001) = true := by simp; omega
          go_wp2_with fail
          go_ret
          exact ⟨rfl, BW.out.alloc BW.out.size _⟩
      · have hltI : ¬ (k : Int) < a1.length := by omega
        as_aux_lemma =>
          obtain ⟨v0, v1, ⟨n1, n2⟩, sN0, sD0⟩ := HWS.out.wa.msc
          obtain ⟨vNa, vNn, vNc, eN, hNl, _, _, _⟩ := sN0.get
          obtain ⟨vDa, vDn, vDc, eD, hDl, _, _, _⟩ := sD0.get
          subst eN
          subst eD
          have hNl' : vNn = l.length := by unfold intV at hNl; simp at hNl; omega
          subst hNl'
          have hDl' : vDn = l.length := by unfold txtV at hDl; simp at hDl; omega
          subst hDl'
          have SN := Lib.hid sN0
          have SD := Lib.hid sD0
          have N1 := Lib.hid n1
          have N2 := Lib.hid n2
          have hll := HWS.out.wa.facts.2.2.2.1
          have hN := HWS.out.hN
          have LE := Lib.hid (show l.length ≤ 80 by omega)
          clear sN0 sD0 n1 n2 hNl hDl hll hN
          have BQ := Lib.hid HWS.out.wa.bel
          go_wp2_with fail
          go_loopw [23, 24, 25] (fun i _ _ wr' => ∃ j : Nat, i = .int .i64 j ∧ j ≤ l.length ∧ Below wr.heap.size wr wr') (fun i _ _ _ => l.length - (intOf i).toNat)
          case atStart => exact ⟨0, rfl, by omega, Below.refl _ _⟩
          case round =>
            obtain ⟨j, rfl, hj, bj⟩ := hrel
            have BJ := Lib.hid bj
            have n1 := (BJ.out.cell (World.block_lt_of_cell? _ _ N1.out)).trans N1.out
            have n2 := (BJ.out.cell (World.block_lt_of_cell? _ _ N2.out)).trans N2.out
            have y1 : (0 : Int) ≤ j := by omega
            have y2 : (j : Int).toNat = j := by omega
            have BZ := Lib.hid (below_trans' BQ.out BJ.out)
            have HJS := Lib.hid (HWS.out.below BJ.out)
            clear bj
            by_cases hlj : j < l.length
            · have hljI : (j : Int) < l.length := by omega
              have KJ := Lib.hid (show j + 1 ≤ l.length from hlj)
              obtain ⟨_, _, _, eA, _, _, _, gA⟩ := (SN.out.below BJ.out).get
              cases eA
              obtain ⟨ad, eA, d0⟩ := gA j (.int .i64 (l[j]'hlj).n) (by unfold intV; rw [List.getElem?_map, List.getElem?_map, List.getElem?_eq_getElem hlj]; rfl)
              subst eA
              obtain ⟨_, _, _, eB, _, _, _, gB⟩ := (SD.out.below BJ.out).get
              cases eB
              obtain ⟨ae, eB, b0⟩ := gB j (.string (bs (l[j]'hlj).d)) (by unfold txtV; rw [List.getElem?_map, List.getElem?_map, List.getElem?_eq_getElem hlj]; rfl)
              subst eB
              have B0 := Lib.hid b0
              have AD := Lib.hid (a_data (l[j]'hlj).n HJS.out.wa (by have := HJS.out.hN; omega))
              have hfd := dataS_find HJS.out.ord j hlj
              rw [hfd] at AD
              have N2J := Lib.hid n2
              clear hfd b0 gA gB
              generalize (l[j]'hlj).n = xn at *
              simp only [Option.getD_some, Option.isSome_some] at AD
              generalize bs (l[j]'hlj).d = xd at *
              go_wp2_with fail
              refine AD.out.mono ?_
              rintro e wk ⟨rfl, bk⟩
              have n3 := (bk.cell (World.block_lt_of_cell? _ _ n1)).trans n1
              have n4 := (bk.cell (World.block_lt_of_cell? _ _ N2J.out)).trans N2J.out
              have b1 := (bk.cell (World.block_lt_of_cell? _ _ B0.out)).trans B0.out
              have BK := Lib.hid (below_trans' BJ.out bk)
              clear bk AD n1 n2 d0 HJS
              have hle := LE.out
              have hw1 : IntKind.i64.wrap ((j : Int) + 1) = j + 1 := IntWalk.i64_in _ (by omega)
              go_wp2_with fail
              go_roundw
              case rel =>
                have hk1 := KJ.out
                have hk2 := LE.out
                exact ⟨j + 1, by go_num, hk1, BK.out⟩
              case measure =>
                have hk1 := KJ.out
                have hk2 := LE.out
                simp [intOf]; omega
            · have hljI : ¬ (j : Int) < l.length := by omega
              have AD := Lib.hid (a_data (-1) HJS.out.wa (by have := HJS.out.hN; omega))
              rw [dataS_neg HWS.out.wa.facts.2.2.1] at AD
              simp only [Option.getD_none, Option.isSome_none] at AD
              go_wp2_with fail
              refine AD.out.mono ?_
              rintro e wk ⟨rfl, bk⟩
              have BK := Lib.hid (below_trans' BZ.out bk)
              clear bk AD
              go_wp2_with fail
              go_ret
              exact ⟨rfl, BK.out⟩
  · have h80I : (80 : Int) < a1.length := by omega
    go_wp2_with fail
    go_ret
    exact ⟨rfl, bA⟩
end Go.Proofs.YtnjkopjbognpiaaDoor
