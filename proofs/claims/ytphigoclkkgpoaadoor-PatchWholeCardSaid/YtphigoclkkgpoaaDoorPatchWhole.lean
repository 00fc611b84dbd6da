/- PatchWhole: a file is put together from its delta. -/
import Derived.Test.YtphigoclkkgpoaaDoorWhole
import Derived.Test.YtphigoclkkgpoaaDoorPatchParts
import Derived.Test.YtphigoclkkgpoaaDoorSignLaws
namespace Go.Proofs.YtphigoclkkgpoaaDoor
open Go.RowKit
set_option linter.unusedVariables false

def NCU (old S : List UInt8) (size i K : Nat) : Prop := ∀ k, k < K → k + ((old.drop (i * size)).take size).length ≤ S.length →
  (S.drop k).take ((old.drop (i * size)).take size).length ≠ (old.drop (i * size)).take size → ws ((S.drop k).take ((old.drop (i * size)).take size).length) = ws ((old.drop (i * size)).take size) →
  csum ((S.drop k).take ((old.drop (i * size)).take size).length) = csum ((old.drop (i * size)).take size) → False
theorem NCU.zero (old S : List UInt8) (size i : Nat) : NCU old S size i 0 := fun k h => absurd h (by omega)
theorem NCU.next {old S : List UInt8} {size i K : Nat} (h : NCU old S size i K) (hn : K + ((old.drop (i * size)).take size).length ≤ S.length →
  (S.drop K).take ((old.drop (i * size)).take size).length ≠ (old.drop (i * size)).take size → ws ((S.drop K).take ((old.drop (i * size)).take size).length) = ws ((old.drop (i * size)).take size) →
  csum ((S.drop K).take ((old.drop (i * size)).take size).length) = csum ((old.drop (i * size)).take size) → False) : NCU old S size i (K + 1) := by
  intro k hk
  by_cases e : k = K
  · subst e; exact hn
  · exact h k (by omega)
theorem NCU.all {old S : List UInt8} {size i K : Nat} (h : NCU old S size i K) (hk : ¬ K + ((old.drop (i * size)).take size).length ≤ S.length) : NoClash old S size i := fun k h1 h2 h3 h4 => h k (by omega) h1 h2 h3 h4
theorem wh_zero {old : List UInt8} {size : Int} {l : List POp} {n c : Int} (h : (whC old size l n c).1 = 0) : ((whL old size l n c).length : Int) = n ∧ (csum (whL old size l n c) : Int) = c ∧ (whL old size l n c).length ≤ 4000 := by
  by_cases h0 : (appl old size l).1.1 = 0
  · by_cases h1 : ((appl old size l).2.length : Int) = n ∧ (csum (appl old size l).2 : Int) = c
    · rw [(wh_fine h0 h1).2]; refine ⟨h1.1, h1.2, ?_⟩; rw [(appl_zero h0).2.2.1]; exact (appl_zero h0).2.2.2.2
    · rw [(wh_sum h0 h1).1] at h; simp at h
  · rw [(wh_bad h0).1] at h; exact absurd h h0
theorem bs_ne' {a b : List UInt8} (h : a ≠ b) : ((bs a).toList == (bs b).toList) = false := by simp [ByteArray.toList_eq, h]
theorem chk_nil (size : Int) (h : 1 ≤ size ∧ size ≤ 64) : chk [] size = (0, -1) := by rw [chk_yes h]; rw [chkA]
theorem sub_list2 (s : ByteArray) (i k e : Nat) (hk : e = i + k) : s.extract i e = bs ((s.data.toList.drop i).take k) := by
  apply eq_bs
  subst hk
  simp
theorem nil_is {w : World} (k : Nat) : SliceIs w (.slice none 0 0) k [] := .inl ⟨rfl, rfl⟩

set_option maxRecDepth 100000 in
set_option maxHeartbeats 6400000 in
theorem patchWhole_walk (E : Nat → Addr) (a0 : ByteArray) (a1 : ByteArray) (a2 : Int) (w : World) (_ : a0.size ≤ maxLen) (_ : a1.size ≤ maxLen) (_ : (Lit.int .i64 a2).wf = true) (hE : ∀ c ∈ [2, 3, 4, 6, 8, 10], Has E w c ∧ Sent w (E c)) (_ : ∀ c ∈ [2, 3, 4, 6, 8, 10], ∀ c' ∈ [2, 3, 4, 6, 8, 10], c ≠ c' → E c ≠ E c') :
    Calls Tryd.prog 3 #[.string a0, .string a1, .int .i64 a2] w fun e w' => e = .returned (.bool true) ∧ Below w.heap.size w w' := by
  have h2 : Has E w 2 := (hE 2 (by simp)).1
  have h3 : Has E w 3 := (hE 3 (by simp)).1
  have h4 : Has E w 4 := (hE 4 (by simp)).1
  have h6 : Has E w 6 := (hE 6 (by simp)).1
  have h8 : Has E w 8 := (hE 8 (by simp)).1
  have h10 : Has E w 10 := (hE 10 (by simp)).1
  have PT := Lib.hid (patched_ok E w h2 h3 h4 h6 h8)
  have H2 := Lib.hid h2
  have H3 := Lib.hid h3
  have H4 := Lib.hid h4
  have H6 := Lib.hid h6
  have H8 := Lib.hid h8
  have H10 := Lib.hid h10
  clear hE h2 h3 h4 h6 h8 h10
  obtain ⟨O, rfl⟩ : ∃ O, a0 = bs O := ⟨a0.data.toList, (bs_of _).symm⟩
  obtain ⟨S, rfl⟩ : ∃ S, a1 = bs S := ⟨a1.data.toList, (bs_of _).symm⟩
  by_cases hsz : O.length ≤ 200 ∧ S.length ≤ 200
  · obtain ⟨hs0, hs1⟩ := hsz
    have hI0 : ¬ (200 : Int) < O.length := by omega
    have hI1 : ¬ (200 : Int) < S.length := by omega
    by_cases hz : 1 ≤ a2 ∧ a2 ≤ 64
    · obtain ⟨z, rfl⟩ : ∃ z : Nat, a2 = z := ⟨a2.toNat, by omega⟩
      have z1 : 1 ≤ z := by omega
      have z2 : z ≤ 64 := by omega
      have zt : ((z : Int)).toNat = z := by omega
      have OF := fun w' => of_yes (bs O) z w' (by rw [bs_size]; omega) z1 z2
      rw [bs_list] at OF
      have hck := blks_chk z O z1 z2 (by omega)
      have hcnt := blks_len z O
      have hcl := cnt_le z O.length (by omega)
      have hget : ∀ k (h : k < (blks z O).length), (blks z O)[k] = blk ((O.drop (k * z)).take z) := fun k h => blks_get z O k h
      have hlt' : ∀ k, k < (blks z O).length → k * z < O.length := fun k h => cnt_lt z1 (by omega)
      have hfine := fun h => whole_fine O S z z1 z2 (by omega) (by omega) h
      have hnil := whole_nil S z z1 z2 (by omega)
      have hncost := mkOps_nil_cost z S
      have hokn := mkOps_ok [] z S z1 (by simp)
      have hchkn := chk_nil (z : Int) (by omega)
      rw [← hcnt] at hfine
      have hl200 : (blks z O).length ≤ 200 := by omega
      have HNL := Lib.hid hncost
      obtain ⟨NO, hNO⟩ : ∃ NO, NO = mkOps [] z S := ⟨_, rfl⟩
      rw [← hNO] at hnil hncost hokn
      have MKN := fun (w' : World) h8' h2' => make_any E none 0 0 [] (z : Int) (bs S) w' (by rw [bcells_nil]; exact nil_is 3) h2' h8' (by rw [hchkn]) (by rw [bs_size]; omega)
      simp only [bs_list, zt] at MKN
      rw [← hNO] at MKN
      clear hNO HNL
      generalize blks z O = l at OF hck hcnt hget hlt' hfine hl200
      have MK := fun (w' : World) A cap h h8' h2' => make_any E A l.length cap l (z : Int) (bs S) w' h h2' h8' (by rw [hck]) (by rw [bs_size]; omega)
      simp only [bs_list, zt] at MK
      have SUBO : ∀ i k e, e = i + k → (bs O).extract i e = bs ((O.drop i).take k) := fun i k e h => by have := sub_list2 (bs O) i k e h; rw [bs_list] at this; exact this
      have SUBS : ∀ i k e, e = i + k → (bs S).extract i e = bs ((S.drop i).take k) := fun i k e h => by have := sub_list2 (bs S) i k e h; rw [bs_list] at this; exact this
      have SU := Lib.hid (fun w' => sum_any (bs S) w' (by rw [bs_size]; omega))
      rw [bs_list] at SU
      have HOF := Lib.hid OF
      have HGET := Lib.hid hget
      have HLT := Lib.hid hlt'
      have HFN := Lib.hid hfine
      have HNIL := Lib.hid hnil
      have HNC := Lib.hid hncost
      have HMK := Lib.hid MK
      have HMKN := Lib.hid MKN
      have HSO := Lib.hid SUBO
      have HSS := Lib.hid SUBS
      have HBN := Lib.hid bs_nil
      clear OF hget hlt' hfine hnil hncost hokn MK MKN SUBO SUBS hck hcnt hcl zt hchkn
      generalize mkOps l z S = ops at HMK HFN
      go_enter Tryd.func3, Tryd.ntmps3
      go_wp2_with (go_at_call 9; refine PT.out.mono ?_; rintro e w0 ⟨rfl, b0⟩)
      refine (HOF.out w0).mono ?_
      rintro e w1 ⟨v, rfl, hown, b1⟩
      have b01 := below_trans' b0 b1
      clear b0 b1
      obtain ⟨A, cap, hv⟩ := owns_slice hown
      rw [hv] at hown ⊢
      have HSL := Lib.hid (SliceIs.ownedK hown)
      clear hown hv
      go_wp2_with fail
      refine (HMK.out w1 _ _ HSL.out (H8.out.below b01) (H2.out.below b01)).mono ?_
      rintro e w2 ⟨v2, rfl, hown2, b2⟩
      have HSL2 := Lib.hid (HSL.out.below b2)
      have b02 := below_trans' b01 b2
      obtain ⟨A2, cap2, hv2⟩ := owns_slice hown2
      rw [hv2] at hown2 ⊢
      have HSP := Lib.hid (SliceIs.ownedK hown2)
      clear hown2 hv2 b2 b01 HSL HOF HMK
      go_wp2_with fail
      go_loopw [11, 12, 13, 14, 15] (fun c i _ _ _ wr => ∃ (k : Nat) (cl : Bool), i = .int .i64 k ∧ k ≤ l.length ∧ c = .bool cl ∧ (cl = false → ∀ j, j < k → NoClash O S z j) ∧ Below w2.heap.size w2 wr) (fun _ i _ _ _ _ => l.length - (intOf i).toNat)
      case atStart => exact ⟨0, false, rfl, by omega, rfl, fun _ j h => absurd h (by omega), Below.refl _ _⟩
      case round =>
        obtain ⟨k, cl, rfl, hk, rfl, hcl, bel⟩ := hrel
        have HCL := Lib.hid hcl
        clear hcl
        by_cases hlt : k < l.length
        · have hltI : (k : Int) < l.length := by omega
          have hg := HGET.out k hlt
          have hm := HLT.out k hlt
          have NEXT : Hid (∀ K, NCU O S z k K → (K + ((O.drop (k * z)).take z).length ≤ S.length → (S.drop K).take ((O.drop (k * z)).take z).length ≠ (O.drop (k * z)).take z → ws ((S.drop K).take ((O.drop (k * z)).take z).length) = ws ((O.drop (k * z)).take z) →
              csum ((S.drop K).take ((O.drop (k * z)).take z).length) = csum ((O.drop (k * z)).take z) → False) → NCU O S z k (K + 1)) := fun K h hn => h.next hn
          have ALL : Hid (∀ K, NCU O S z k K → ¬ K + ((O.drop (k * z)).take z).length ≤ S.length → NoClash O S z k) := fun K h hn => h.all hn
          have ZERO := Lib.hid (NCU.zero O S z k)
          have hBl : ((O.drop (k * z)).take z).length ≤ z ∧ 1 ≤ ((O.drop (k * z)).take z).length ∧ k * z + ((O.drop (k * z)).take z).length ≤ O.length := by
            rw [List.length_take, List.length_drop]; omega
          have hexb := HSO.out (k * z) ((O.drop (k * z)).take z).length _ rfl
          rw [take_len] at hexb
          have e1 := mul_wrap k z (by omega)
          obtain ⟨s0', n0', c0', ex, _, _, _, g1⟩ := (HSL2.out.below bel).get
          cases ex
          obtain ⟨g2, g3, g4⟩ := bcells_get l k hlt
          rw [hg, blk_is] at g2 g3 g4
          obtain ⟨ad, rfl, d0⟩ := g1 _ _ g2
          obtain ⟨a', e', d1⟩ := g1 _ _ g3
          cases e'
          obtain ⟨a', e', d2⟩ := g1 _ _ g4
          cases e'
          have d1 := cell_at d1
          have d2 := cell_at d2
          have D0 := Lib.hid (fun (w' : World) (b : Below wr.heap.size wr w') => cell_kept d0 b)
          have D1 := Lib.hid (fun (w' : World) (b : Below wr.heap.size wr w') => cell_kept d1 b)
          have D2 := Lib.hid (fun (w' : World) (b : Below wr.heap.size wr w') => cell_kept d2 b)
          clear g1 g2 g3 g4 hg d1 d2
          have KK := Lib.hid (show k + 1 ≤ l.length by omega)
          have x1 : (0 : Int) ≤ k := by omega
          have x2 : (k : Int).toNat = k := by omega
          generalize hB : (O.drop (k * z)).take z = B at *
          have HBB := Lib.hid hB
          clear hB
          generalize k * z = m at *
          obtain ⟨hB1, hB2, hB3⟩ := hBl
          have x3 : ((m : Int) + (B.length : Int)).toNat = m + B.length := by omega
          have x4 : (m : Int).toNat = m := by omega
          have x5 : (0 : Int) ≤ m := by omega
          have x6 : (m : Int) ≤ (m : Int) + (B.length : Int) := by omega
          have x7 : (m : Int) + (B.length : Int) ≤ O.length := by omega
          go_wp2_with fail
          go_loopw [11, 14, 15] (fun c q _ wi => ∃ (j : Nat) (cl' : Bool), q = .int .i64 j ∧ j ≤ S.length + 1 ∧ c = .bool cl' ∧ (cl' = false → (∀ j', j' < k → NoClash O S z j') ∧ NCU O S z k j) ∧ Below wr.heap.size wr wi) (fun _ q _ _ => S.length + 1 - (intOf q).toNat)
          case atStart => exact ⟨0, cl, rfl, by omega, rfl, fun h => ⟨HCL.out h, ZERO.out⟩, Below.refl _ _⟩
          case round =>
            obtain ⟨j, cl', rfl, hj, rfl, hcl', beli⟩ := hrel
            have HCLJ := Lib.hid hcl'
            clear hcl'
            have d0 := D0.out _ beli
            by_cases hjl : j + B.length ≤ S.length
            · have hjI : (j : Int) + B.length ≤ S.length := by omega
              have JJ := Lib.hid (show j + 1 ≤ S.length + 1 by omega)
              have d1 := D1.out _ beli
              have d2 := D2.out _ beli
              have hext := HSS.out j B.length _ rfl
              have NX := Lib.hid (NEXT.out j)
              have y1 : (j : Int).toNat = j := by omega
              have y2 : ((j : Int) + (B.length : Int)).toNat = j + B.length := by omega
              have y3 : (0 : Int) ≤ j := by omega
              have y4 : (j : Int) ≤ (j : Int) + (B.length : Int) := by omega
              have hTl : ((S.drop j).take B.length).length ≤ 200 := by rw [List.length_take]; omega
              generalize (S.drop j).take B.length = T at *
              have WS := Lib.hid (fun w' => weakSum_any (bs T) w' (by rw [bs_size]; omega))
              have SS := Lib.hid (fun w' => sum_any (bs T) w' (by rw [bs_size]; omega))
              rw [bs_list] at WS SS
              by_cases hTB : T = B
              · have N := Lib.hid (fun h => NX.out h (fun _ h' => absurd hTB h'))
                have hcmp : ((bs T).toList == (bs B).toList) = true := by rw [hTB]; simp
                clear hTB NX
                go_wp2_with fail
                go_quiet (fail)
                go_wp2_with fail
                go_roundw
                case rel => exact ⟨j + 1, cl', by go_num, JJ.out, rfl, fun h => ⟨(HCLJ.out h).1, N.out (HCLJ.out h).2⟩, below_drewN beli _⟩
                case measure => simp [intOf]; omega
              · have hcmp : ((bs T).toList == (bs B).toList) = false := bs_ne' hTB
                by_cases hw : ws T = ws B
                · by_cases hc : csum T = csum B
                  · have hw1 : ((ws T : Int) == (ws B : Int)) = true := by rw [hw]; simp
                    have hc1 : ((csum T : Int) == (csum B : Int)) = true := by rw [hc]; simp
                    clear hw hc hTB NX
                    go_wp2_with fail
                    go_quiet ((first | (go_at_call 12; first | exact quiet_left (WS.out _) | exact quiet_add_left (WS.out _)) | (go_at_call 13; first | exact quiet_left (SS.out _) | exact quiet_add_left (SS.out _))))
                    go_wp2_with fail
                    go_roundw
                    case rel => exact ⟨j + 1, true, by go_num, JJ.out, rfl, fun h => absurd h (by decide), below_drewN beli _⟩
                    case measure => simp [intOf]; omega
                  · have N := Lib.hid (fun h => NX.out h (fun _ _ _ h' => hc h'))
                    have hw1 : ((ws T : Int) == (ws B : Int)) = true := by rw [hw]; simp
                    have hc1 : ((csum T : Int) == (csum B : Int)) = false := by rw [beq_eq_false_iff_ne]; omega
                    clear hw hc hTB NX
                    go_wp2_with fail
                    go_quiet ((first | (go_at_call 12; first | exact quiet_left (WS.out _) | exact quiet_add_left (WS.out _)) | (go_at_call 13; first | exact quiet_left (SS.out _) | exact quiet_add_left (SS.out _))))
                    go_wp2_with fail
                    go_roundw
                    case rel => exact ⟨j + 1, cl', by go_num, JJ.out, rfl, fun h => ⟨(HCLJ.out h).1, N.out (HCLJ.out h).2⟩, below_drewN beli _⟩
                    case measure => simp [intOf]; omega
                · have N := Lib.hid (fun h => NX.out h (fun _ _ h' _ => hw h'))
                  have hw1 : ((ws T : Int) == (ws B : Int)) = false := by rw [beq_eq_false_iff_ne]; omega
                  clear hw hTB NX
                  go_wp2_with fail
                  go_quiet ((first | (go_at_call 12; first | exact quiet_left (WS.out _) | exact quiet_add_left (WS.out _)) | (go_at_call 13; first | exact quiet_left (SS.out _) | exact quiet_add_left (SS.out _))))
                  go_wp2_with fail
                  go_roundw
                  case rel => exact ⟨j + 1, cl', by go_num, JJ.out, rfl, fun h => ⟨(HCLJ.out h).1, N.out (HCLJ.out h).2⟩, below_drewN beli _⟩
                  case measure => simp [intOf]; omega
            · have hjI : ¬ (j : Int) + B.length ≤ S.length := by omega
              have AL := Lib.hid (fun h => ALL.out j h hjl)
              have bel2 := below_trans' bel beli
              go_wp2_with fail
              go_roundw
              case rel => exact ⟨k + 1, cl', by go_num, KK.out, rfl, fun h j' hj' => by
                rcases Nat.lt_or_ge j' k with h1 | h1
                · exact (HCLJ.out h).1 j' h1
                · obtain rfl : j' = k := by omega
                  exact AL.out (HCLJ.out h).2, bel2⟩
              case measure => simp [intOf]; omega
        · have hltI : ¬ (k : Int) < l.length := by omega
          have HOPS := Lib.hid (HSP.out.below bel)
          have bel0 := below_trans' b02 bel
          have WA := Lib.hid (whole_any E O (z : Int) _ _ _ ops (S.length : Int) (csum S : Int) wr HOPS.out (H2.out.below bel0) (H3.out.below bel0) (H4.out.below bel0) (H6.out.below bel0) (H8.out.below bel0) (H10.out.below bel0))
          have hcases : (cl = false ∧ (whC O (z : Int) ops (S.length : Int) (csum S : Int)).1 = 0 ∧ whL O (z : Int) ops (S.length : Int) (csum S : Int) = S) ∨ cl = true ∧ (whC O (z : Int) ops (S.length : Int) (csum S : Int)).1 = 0 ∨ cl = true ∧ (whC O (z : Int) ops (S.length : Int) (csum S : Int)).1 ≠ 0 := by
            cases cl with
            | false =>
              have hf := HFN.out (fun i hi => HCL.out rfl i (by omega))
              have := wh_fine (old := O) (size := (z : Int)) (l := ops) (n := (S.length : Int)) (c := (csum S : Int)) (by rw [hf]) (by rw [hf]; exact ⟨rfl, rfl⟩)
              exact .inl ⟨rfl, by rw [this.1], by rw [this.2, hf]⟩
            | true => by_cases h : (whC O (z : Int) ops (S.length : Int) (csum S : Int)).1 = 0
                      · exact .inr (.inl ⟨rfl, h⟩)
                      · exact .inr (.inr ⟨rfl, h⟩)
          have WZ := Lib.hid (wh_zero (old := O) (size := (z : Int)) (l := ops) (n := (S.length : Int)) (c := (csum S : Int)))
          generalize whC O (z : Int) ops (S.length : Int) (csum S : Int) = wc at *
          generalize whL O (z : Int) ops (S.length : Int) (csum S : Int) = wl at *
          clear HFN HCL HSL2 HSP HOPS HGET HLT bel b02 HSO HSS
          rcases hcases with ⟨rfl, hc0, hwl⟩ | ⟨rfl, hc0⟩ | ⟨rfl, hc0⟩
          · obtain ⟨q1, q2, q3⟩ := WZ.out hc0
            have hcmp : ((bs wl).toList == (bs S).toList) = true := by rw [hwl]; simp
            have SW := Lib.hid (fun w' => sum_any (bs wl) w' (by rw [bs_size]; omega))
            rw [bs_list] at SW
            clear hwl WZ
            go_wp2_with (go_at_call 13; refine (SU.out _).mono ?_; rintro e w4 ⟨rfl, rfl⟩)
            refine WA.out.mono ?_
            rintro e w5 ⟨v5, rfl, fe, b5⟩
            have b05 := below_trans' bel0 b5
            clear b5 bel0 WA
            rw [hc0] at fe
            rw [fe.zero]
            clear fe hc0
            go_wp2_with (first | (go_at_call 13; refine (SW.out _).mono ?_; rintro e w4 ⟨rfl, rfl⟩) | (go_at_call 13; refine (SU.out _).mono ?_; rintro e w4 ⟨rfl, rfl⟩))
            refine (HMKN.out w5 (H8.out.below b05) (H2.out.below b05)).mono ?_
            rintro e w6 ⟨v6, rfl, hown6, b6⟩
            have b06 := below_trans' b05 b6
            clear b05 b6
            obtain ⟨A6, cap6, hv6⟩ := owns_slice hown6
            rw [hv6] at hown6 ⊢
            have HS6 := Lib.hid (SliceIs.ownedK hown6)
            clear hown6 hv6
            have CO := cost_any _ _ _ NO w6 HS6.out (by rw [HNC.out]; omega)
            rw [HNC.out] at CO
            have HCO := Lib.hid CO
            clear CO
            go_wp2_with (go_at_call 15; refine HCO.out.mono ?_; rintro e w7 ⟨rfl, b7⟩)
            have b07 := below_trans' b06 b7
            have HS7 := Lib.hid (HS6.out.below b7)
            clear b06 b7 HS6 HCO
            go_wp2_with (first | (go_at_call 13; refine (SU.out _).mono ?_; rintro e w8 ⟨rfl, rfl⟩) | fail)
            have WB := whole_any E [] (z : Int) _ _ _ NO (S.length : Int) (csum S : Int) w7 HS7.out (H2.out.below b07) (H3.out.below b07) (H4.out.below b07) (H6.out.below b07) (H8.out.below b07) (H10.out.below b07)
            have hwf := wh_fine (old := []) (size := (z : Int)) (l := NO) (n := (S.length : Int)) (c := (csum S : Int)) (by rw [HNIL.out]) (by rw [HNIL.out]; exact ⟨rfl, rfl⟩)
            rw [hwf.1, hwf.2, HNIL.out] at WB
            simp only [HBN.out] at WB
            have HWB := Lib.hid WB
            clear WB hwf
            refine HWB.out.mono ?_
            rintro e w9 ⟨v9, rfl, fe9, b9⟩
            rw [fe9.zero]
            clear fe9
            have b09 := below_trans' b07 b9
            go_wp2_with fail
            go_ret
            exact ⟨rfl, b09⟩
          · obtain ⟨q1, q2, q3⟩ := WZ.out hc0
            have SW := Lib.hid (fun w' => sum_any (bs wl) w' (by rw [bs_size]; omega))
            rw [bs_list] at SW
            clear WZ
            go_wp2_with (go_at_call 13; refine (SU.out _).mono ?_; rintro e w4 ⟨rfl, rfl⟩)
            refine WA.out.mono ?_
            rintro e w5 ⟨v5, rfl, fe, b5⟩
            have b05 := below_trans' bel0 b5
            clear b5 bel0 WA
            rw [hc0] at fe
            rw [fe.zero]
            clear fe hc0
            go_wp2_with (first | (go_at_call 13; refine (SW.out _).mono ?_; rintro e w4 ⟨rfl, rfl⟩) | (go_at_call 13; refine (SU.out _).mono ?_; rintro e w4 ⟨rfl, rfl⟩))
            refine (HMKN.out w5 (H8.out.below b05) (H2.out.below b05)).mono ?_
            rintro e w6 ⟨v6, rfl, hown6, b6⟩
            have b06 := below_trans' b05 b6
            clear b05 b6
            obtain ⟨A6, cap6, hv6⟩ := owns_slice hown6
            rw [hv6] at hown6 ⊢
            have HS6 := Lib.hid (SliceIs.ownedK hown6)
            clear hown6 hv6
            have CO := cost_any _ _ _ NO w6 HS6.out (by rw [HNC.out]; omega)
            rw [HNC.out] at CO
            have HCO := Lib.hid CO
            clear CO
            go_wp2_with (go_at_call 15; refine HCO.out.mono ?_; rintro e w7 ⟨rfl, b7⟩)
            have b07 := below_trans' b06 b7
            have HS7 := Lib.hid (HS6.out.below b7)
            clear b06 b7 HS6 HCO
            go_wp2_with (first | (go_at_call 13; refine (SU.out _).mono ?_; rintro e w8 ⟨rfl, rfl⟩) | fail)
            have WB := whole_any E [] (z : Int) _ _ _ NO (S.length : Int) (csum S : Int) w7 HS7.out (H2.out.below b07) (H3.out.below b07) (H4.out.below b07) (H6.out.below b07) (H8.out.below b07) (H10.out.below b07)
            have hwf := wh_fine (old := []) (size := (z : Int)) (l := NO) (n := (S.length : Int)) (c := (csum S : Int)) (by rw [HNIL.out]) (by rw [HNIL.out]; exact ⟨rfl, rfl⟩)
            rw [hwf.1, hwf.2, HNIL.out] at WB
            simp only [HBN.out] at WB
            have HWB := Lib.hid WB
            clear WB hwf
            refine HWB.out.mono ?_
            rintro e w9 ⟨v9, rfl, fe9, b9⟩
            rw [fe9.zero]
            clear fe9
            have b09 := below_trans' b07 b9
            go_wp2_with fail
            go_ret
            exact ⟨rfl, b09⟩
          · clear WZ
            go_wp2_with (go_at_call 13; refine (SU.out _).mono ?_; rintro e w4 ⟨rfl, rfl⟩)
            refine WA.out.mono ?_
            rintro e w5 ⟨v5, rfl, fe, b5⟩
            have b05 := below_trans' bel0 b5
            clear b5 bel0 WA
            obtain ⟨t, p, hv⟩ := fe.some hc0
            clear fe hc0
            rw [hv]
            clear hv
            go_wp2_with fail
            refine (HMKN.out w5 (H8.out.below b05) (H2.out.below b05)).mono ?_
            rintro e w6 ⟨v6, rfl, hown6, b6⟩
            have b06 := below_trans' b05 b6
            clear b05 b6
            obtain ⟨A6, cap6, hv6⟩ := owns_slice hown6
            rw [hv6] at hown6 ⊢
            have HS6 := Lib.hid (SliceIs.ownedK hown6)
            clear hown6 hv6
            have CO := cost_any _ _ _ NO w6 HS6.out (by rw [HNC.out]; omega)
            rw [HNC.out] at CO
            have HCO := Lib.hid CO
            clear CO
            go_wp2_with (go_at_call 15; refine HCO.out.mono ?_; rintro e w7 ⟨rfl, b7⟩)
            have b07 := below_trans' b06 b7
            have HS7 := Lib.hid (HS6.out.below b7)
            clear b06 b7 HS6 HCO
            go_wp2_with (first | (go_at_call 13; refine (SU.out _).mono ?_; rintro e w8 ⟨rfl, rfl⟩) | fail)
            have WB := whole_any E [] (z : Int) _ _ _ NO (S.length : Int) (csum S : Int) w7 HS7.out (H2.out.below b07) (H3.out.below b07) (H4.out.below b07) (H6.out.below b07) (H8.out.below b07) (H10.out.below b07)
            have hwf := wh_fine (old := []) (size := (z : Int)) (l := NO) (n := (S.length : Int)) (c := (csum S : Int)) (by rw [HNIL.out]) (by rw [HNIL.out]; exact ⟨rfl, rfl⟩)
            rw [hwf.1, hwf.2, HNIL.out] at WB
            simp only [HBN.out] at WB
            have HWB := Lib.hid WB
            clear WB hwf
            refine HWB.out.mono ?_
            rintro e w9 ⟨v9, rfl, fe9, b9⟩
            rw [fe9.zero]
            clear fe9
            have b09 := below_trans' b07 b9
            go_wp2_with fail
            go_ret
            exact ⟨rfl, b09⟩
    · have HZ := Lib.hid hz
      clear hz
      go_enter Tryd.func3, Tryd.ntmps3
      go_wp2_with (go_at_call 9; refine PT.out.mono ?_; rintro e w0 ⟨rfl, b0⟩)
      have ON := of_no E (bs O) a2 w0 (fun h => HZ.out h.2) (H2.out.below b0)
      rw [ev_pos E (by decide)] at ON
      refine ON.mono ?_
      rintro e w1 ⟨rfl, b1⟩
      clear ON
      go_wp2_with fail
      go_ret
      exact ⟨rfl, below_trans' b0 (b1.below _)⟩
  · have hs3 : (200 : Int) < O.length ∨ ¬ (200 : Int) < O.length ∧ (200 : Int) < S.length := by omega
    rcases hs3 with h | ⟨h, h'⟩
    all_goals
      go_enter Tryd.func3, Tryd.ntmps3
      go_wp2_with (go_at_call 9; refine PT.out.mono ?_; rintro e w0 ⟨rfl, b0⟩)
      go_ret
      exact ⟨rfl, b0⟩
end Go.Proofs.YtphigoclkkgpoaaDoor
