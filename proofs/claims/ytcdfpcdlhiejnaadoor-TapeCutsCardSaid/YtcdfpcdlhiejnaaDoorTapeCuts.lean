/- TapeCuts: wherever power is cut, what is recovered is what was appended with no error, and it goes on from there. -/
import Derived.Test.YtcdfpcdlhiejnaaDoorTapCutP
import Derived.Test.YtcdfpcdlhiejnaaDoorTapeJoins
import Derived.Laws.OwnMore
namespace Go.Proofs.YtcdfpcdlhiejnaaDoor
open Go.RowKit
set_option linter.unusedVariables false

def tOM : List UInt8 := [111, 110, 101, 32, 109, 111, 114, 101]
theorem bs_OM : bs tOM = ⟨#[111, 110, 101, 32, 109, 111, 114, 101]⟩ := by unfold bs tOM; rfl
attribute [local irreducible] recL readL recsL tOM
set_option maxRecDepth 100000 in
set_option maxHeartbeats 12800000 in
theorem tapeCuts_walk (E : Nat → Addr) (s0 : Option Addr) (n0 c0 : Nat) (a0 : List ByteArray) (a1 : Int) (w : World) (hA : SliceIs w (.slice s0 n0 c0) 1 (a0.map .string) ∧ ∀ s ∈ a0, s.size ≤ maxLen) (h1z : (Lit.int .i64 a1).wf = true) (hT : TabW w) (hM : MaxW w) (hH : ∀ c ∈ [2, 3, 8, 12, 14, 13], Has E w c ∧ Sent w (E c)) (_ : ∀ c ∈ [2, 3, 8, 12, 14, 13], ∀ c' ∈ [2, 3, 8, 12, 14, 13], c ≠ c' → E c ≠ E c') :
    Calls Tryd.prog 4 #[.slice s0 n0 c0, .int .i64 a1] w fun e w' => e = .returned (.bool true) ∧ Below w.heap.size w w' := by
  have hE := tenv_of hT hM hH
  have HE := Lib.hid hE
  have TD := Lib.hid (taped_ok E w hE)
  obtain ⟨hsl, _⟩ := hA
  have hg := hsl.get
  obtain ⟨s', n', c', e, hn, h1, h2, hg⟩ := hg
  cases e
  rw [List.length_map, Nat.mul_one] at hn
  subst hn
  have hz1 : a1 ≤ 9223372036854775807 := by
    simp [Lit.wf, IntKind.min, IntKind.max, IntKind.signed, IntKind.bits] at h1z
    omega
  unfold maxLen at h2
  have HSL := Lib.hid hsl
  clear hT hM hH hE hsl hg h1z
  go_enter Tryd.func4, Tryd.ntmps4
  go_wp2_with fail
  refine TD.out.mono ?_
  rintro e w1 ⟨rfl, b1⟩
  by_cases hq1 : a0.length ≤ 30
  · have hq1I : ¬ (30 : Int) < a0.length := by omega
    by_cases hq2 : 0 ≤ a1
    · have hq2I : ¬ a1 < 0 := by omega
      have ND := Lib.hid (tnew_s (w0 := w) (w := w1) ⟨#[]⟩ b1 (by decide))
      clear TD
      go_wp2_with fail
      refine ND.out.mono ?_
      rintro e w2 ⟨db, rfl, ⟨F2, t2, _⟩, _⟩
      have CU := tcut_s a1 t2 HE.out hz1
      have hcc : ctC ⟨(⟨#[]⟩ : ByteArray).data.toList, false, -1⟩ a1 = 0 ∧ ctT ⟨(⟨#[]⟩ : ByteArray).data.toList, false, -1⟩ a1 = ⟨[], false, a1⟩ := by
        exact ⟨by unfold ctC; rw [if_neg (by omega)]; rfl, by unfold ctT; rw [if_neg (by omega)]; rfl⟩
      rw [hcc.1, hcc.2, ev_zero] at CU
      have HCU := Lib.hid CU
      have HST := Lib.hid (CutI.start a1 hq2)
      clear t2 b1 ND CU hcc
      go_wp2_with fail
      refine HCU.out.mono ?_
      rintro e w3 ⟨rfl, F3, t3, _⟩
      have T3 := Lib.hid t3
      clear t3 HCU
      obtain ⟨i0, hi, hz0, hz1', hz2⟩ := info_parts infoStr
      go_wp2_with fail
      go_loopw [8, 9] (fun o i wr => ∃ (k : Nat) (done : List (List UInt8)) (d : TP) (F : Nat → Prop), i = .int .i64 k ∧ k ≤ a0.length ∧ done.length ≤ k ∧ CutI done d ∧ TpS w wr F db d ∧ wr.ownsRow w.heap.size 9 1 o done.length (strV done) ∧ (∀ x, o.ownBlock = some x → ¬ F x)) (fun _ i _ => a0.length - (intOf i).toNat)
      case atStart => exact ⟨0, [], _, F3, rfl, by omega, by simp, HST.out, T3.out, World.ownsRow_nil _ _ _ _, by simp [Value.ownBlock]⟩
      case round =>
        obtain ⟨k, done, d, F, rfl, hk, hdk, hci, tp, hown, hnf⟩ := hrel
        have HCI := Lib.hid hci
        have HTP := Lib.hid tp
        have HO := Lib.hid hown
        have HNF := Lib.hid hnf
        obtain ⟨va, vc, rfl⟩ := owns_slice hown
        clear hci tp hown hnf
        by_cases hlt : k < a0.length
        · have hltI : (k : Int) < a0.length := by omega
          obtain ⟨s1, n1, c1, e1, _, _, _, g1⟩ := (HSL.out.below HTP.out.bel).get
          cases e1
          obtain ⟨ad, rfl, d0⟩ := g1 _ _ (strs_at a0 k hlt)
          have D0 := Lib.hid (fun (w' : World) (bb : Below w.heap.size w w') => by
            obtain ⟨s2, n2, c2, e2, _, _, _, g2⟩ := (HSL.out.below bb).get
            cases e2
            obtain ⟨ad2, e2, d2⟩ := g2 _ _ (strs_at a0 k hlt)
            cases e2
            exact d2)
          clear g1
          have x1 : (0 : Int) ≤ k := by omega
          have x2 : (k : Int).toNat = k := by omega
          generalize a0[k]'hlt = s at *
          obtain ⟨t, rfl⟩ : ∃ t, s = bs t := ⟨s.data.toList, (bs_of s).symm⟩
          have hsz : (bs t).size = t.length := bs_size t
          by_cases hs : t.length ≤ 200
          · have hsI : ¬ (200 : Int) < t.length := by omega
            have hlen := HCI.out.len
            have AP := tapp_s t HTP.out HE.out (by omega) (by omega)
            have KK := Lib.hid (show k + 1 ≤ a0.length ∧ done.length + 1 ≤ k + 1 ∧ done.length ≤ k + 1 by omega)
            have HN1 : Hid (done.length + 1 ≤ maxLen) := by show _ ≤ _; unfold maxLen; omega
            have HN2 : Hid ((done.length + 1) * 16 ≤ 140737488355328) := by show _ ≤ _; omega
            rcases HCI.out.step t hs (by omega) with ⟨p1, p2⟩ | ⟨p1, p2⟩
            · rw [p1, ev_zero] at AP
              have HAP := Lib.hid AP
              have HP2 := Lib.hid p2
              clear AP p1 p2 hlen HCI
              go_wp2_with fail
              refine HAP.out.mono ?_
              rintro e w4 ⟨rfl, F4, t4, l4⟩
              obtain ⟨o4, n4⟩ := l4.own HO.out HNF.out
              have T4 := Lib.hid t4
              have O4 := Lib.hid o4
              have N4 := Lib.hid n4
              have d4 := D0.out _ t4.bel
              clear t4 l4 o4 n4 d0 D0 HO HNF HAP
              go_wp2_with (at_builtin; refine wpList_append_own_at _ rfl _ _ 22 rfl w.heap.size 9 i0 _ 1 16 Tryd.underlying22 hi hz0 hz1' hz2 rfl (by decide) _ _ _ rfl (O4.out.alloc _) ⟨w4.heap.size, 0, none⟩ 1 1 [.string (bs t)] rfl rfl (one_news (by simp)) (one_cell rfl) HN1.out HN2.out (by have := T4.out.bel.size; simp; omega) ?_; intro v' w5 hown5 hgrow _ hat; have HO5 := Lib.hid hown5; have HG5 := Lib.hid hgrow; have HA5 := Lib.hid hat; obtain ⟨vb, vd, rfl⟩ := owns_slice hown5; clear hown5 hgrow hat)
              have B4 := wb_alloc w4 (.cells #[.string (bs t)] 9)
              have T4' := T4.out.below B4
              have c5 : Chg (w4.alloc (.cells #[.string (bs t)] 9)) w5 (fun x => Value.ownBlock (.slice va done.length vc) = some x) := ⟨HG5.out.os, HG5.out.tape, HG5.out.output, HG5.out.size, fun k hk hn => HG5.out.block k hk (fun e => hn e.symm)⟩
              have T5 := Lib.hid (T4'.kept c5 (fun x hx hv => N4.out x hv hx) (c5.below T4'.bel (fun x hx => own_base O4.out hx)))
              have N5 : Hid (∀ x, Value.ownBlock (.slice vb (done.length + 1) vd) = some x → ¬ F4 x) := Lib.hid fun x hx hf => by
                rcases HA5.out with h | h
                · rw [h] at hx; exact N4.out x hx hf
                · rw [h] at hx
                  have := (T4'.lo x hf).2
                  simp at hx
                  simp at this
                  omega
              clear B4 T4' c5
              go_wp2_with fail
              go_roundw
              case rel => exact ⟨k + 1, done ++ [t], _, F4, by go_num, KK.out.1, by simpa using KK.out.2.1, HP2.out, T5.out, by rw [strV_snoc, List.length_append]; exact HO5.out, N5.out⟩
              case measure => simp [intOf]; omega
            · rw [p1, ev_pos E (by decide)] at AP
              have HAP := Lib.hid AP
              have HP2 := Lib.hid p2
              clear AP p1 p2 hlen HCI
              go_wp2_with fail
              refine HAP.out.mono ?_
              rintro e w4 ⟨rfl, F4, t4, l4⟩
              obtain ⟨o4, n4⟩ := l4.own HO.out HNF.out
              have T4 := Lib.hid t4
              have O4 := Lib.hid o4
              have N4 := Lib.hid n4
              clear t4 l4 o4 n4 d0 D0 HO HNF HAP
              go_wp2_with fail
              go_roundw
              case rel => exact ⟨k + 1, done, _, F4, by go_num, KK.out.1, KK.out.2.2, HP2.out, T4.out, O4.out, N4.out⟩
              case measure => simp [intOf]; omega
          · have hsI : (200 : Int) < t.length := by omega
            clear D0
            go_wp2_with fail
            go_ret
            exact ⟨rfl, HTP.out.bel⟩
        · have hltI : ¬ (k : Int) < a0.length := by omega
          have hlen := HCI.out.len
          have hdn : done.length ≤ 30 := by omega
          have RC := trec_s HTP.out HE.out (by omega)
          rw [HCI.out.read, HCI.out.rcv] at RC
          simp only at RC
          have HRC := Lib.hid RC
          have hrl := recsL_le done HCI.out.few
          have hfew : ∀ s ∈ done ++ [tOM], s.length ≤ 20000 := fun s hs => by
            rcases List.mem_append.1 hs with h | h
            · exact Nat.le_trans (HCI.out.few s h) (by decide)
            · simp at h; subst h; unfold tOM; decide
          have hom : tOM.length = 8 := by unfold tOM; rfl
          have hrm := recL_le (s := tOM) (by omega)
          have hwr : readL (recsL done ++ recL tOM) = (done ++ [tOM], (recsL done ++ recL tOM).length) := by
            have := readL_part (done ++ [tOM]) hfew (p := []) rfl
            rw [List.append_nil, recsL_snoc] at this
            exact this
          obtain ⟨q1, q2⟩ := ap_of (d := ⟨recsL done, false, -1⟩) (s := tOM) (by omega) (by simp only; omega) rfl rfl
          simp only at q2
          have hLL : (recsL done ++ recL tOM).length ≤ 100000 := by rw [List.length_append]; omega
          have HWR := Lib.hid hwr
          have HQ1 := Lib.hid q1
          have HQ2 := Lib.hid q2
          have hOM := bs_OM
          clear RC hwr q1 q2 hfew HCI hlen
          generalize hD : recsL done = D at *
          generalize hD2 : D ++ recL tOM = D2 at *
          clear hD hD2
          go_wp2_with fail
          refine HRC.out.mono ?_
          rintro e w4 ⟨r, rfl, o4, F4, t4, l4⟩
          obtain ⟨od4, nd4⟩ := l4.own HO.out HNF.out
          have PW := Lib.hid (fun (w' : World) (bb : Below w4.heap.size w4 w') => tpower_s (t4.below bb))
          have AP := Lib.hid (fun (w' : World) (bb : Below w4.heap.size w4 w') => tapp_s tOM (t4.below bb) HE.out (by omega) (by simp only; omega))
          rw [HQ1.out, HQ2.out, ev_zero, hOM] at AP
          obtain ⟨ra, rc, rfl⟩ := owns_slice o4
          have SX := Lib.hid (SliceIs.ownedK o4)
          have SD := Lib.hid (SliceIs.ownedK od4)
          clear t4 l4 o4 od4 nd4 HRC HQ1 HQ2
          go_wp2_with fail
          refine (sameTexts_is _ _ done done _ SX.out SD.out).mono ?_
          rintro e w5 ⟨rfl, d5⟩
          have b45 := Lib.hid (d5.below w4.heap.size)
          clear d5
          go_wp2_with fail
          refine (PW.out _ b45.out).mono ?_
          rintro e w6 ⟨rfl, rfl⟩
          go_wp2_with fail
          refine (AP.out _ b45.out).mono ?_
          rintro e w7 ⟨rfl, F7, t7, _⟩
          have BY := Lib.hid (tbytes_s t7)
          have RD := Lib.hid (read_any E D2 w7 (HE.out.lib.below t7.bel) (by omega))
          have T7 := Lib.hid t7
          clear t7 PW AP SX SD
          simp only [HWR.out] at RD
          go_wp2_with fail
          refine BY.out.mono ?_
          rintro e w8 ⟨rfl, rfl⟩
          go_wp2_with fail
          refine RD.out.mono ?_
          rintro e w9 ⟨rx, rfl, o9, b9⟩
          have SX := (SliceIs.ownedK o9).get
          obtain ⟨xs, xn, xc, rfl, en, _, _, gx⟩ := SX
          have exn : xn = done.length + 1 := by
            have : (strV (done ++ [tOM])).length = done.length + 1 := by unfold strV; simp
            omega
          subst exn
          obtain ⟨ad, rfl, dx⟩ := gx done.length (.string (bs tOM)) (by unfold strV; simp)
          have BY9 := Lib.hid (tbytes_s (T7.out.below b9))
          have B9 := Lib.hid (below_trans' T7.out.bel b9)
          rw [hOM] at dx
          clear gx en o9 b9 BY RD T7
          have y1 : (0 : Int) ≤ done.length := by omega
          have y2 : (done.length : Int) < (done.length : Int) + 1 := by omega
          have y3 : (done.length : Int).toNat = done.length := by omega
          go_wp2_with fail
          refine BY9.out.mono ?_
          rintro e w10 ⟨rfl, rfl⟩
          go_wp2_with fail
          go_ret
          exact ⟨rfl, B9.out⟩
    · have hq2I : a1 < 0 := by omega
      clear TD
      go_wp2_with fail
      go_ret
      exact ⟨rfl, b1⟩
  · have hq1I : (30 : Int) < a0.length := by omega
    clear TD
    go_wp2_with fail
    go_ret
    exact ⟨rfl, b1⟩
end Go.Proofs.YtcdfpcdlhiejnaaDoor
