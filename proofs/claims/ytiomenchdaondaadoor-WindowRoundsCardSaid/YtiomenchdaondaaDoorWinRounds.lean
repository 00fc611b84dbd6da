/- WindowRounds: texts that are pushed one by one, and answered one by one, are told one by one. Written by gen_winrounds.py. -/
import Derived.Test.YtiomenchdaondaaDoorWinded
import Derived.Test.YtiomenchdaondaaDoorLaid
namespace Go.Proofs.YtiomenchdaondaaDoor
open Go.RowKit
set_option linter.unusedVariables false
attribute [local irreducible] takeR sTake ackMore aheadB

theorem strs_of (a : List ByteArray) : a.map Value.string = (a.map fun s => s.data.toList).map fun x => Value.string (bs x) := by
  rw [List.map_map]; congr 1; funext s; simp [bs_of]
theorem stN_well (first : Int) : 0 ≤ stN first ∧ stN first < 65536 := md_lt _
def lastI (st : Int) (k : Nat) : Int := if k = 0 then -1 else numI st (k - 1)
theorem lastI_zero (st : Int) : lastI st 0 = -1 := rfl
theorem lastI_succ (st : Int) (k : Nat) : lastI st (k + 1) = numI st k := rfl
attribute [local irreducible] lastI numI
set_option maxRecDepth 100000 in
set_option maxHeartbeats 12800000 in
theorem windowRounds_walk (E : Nat → Addr) (a0 : Int) (s1 : Option Addr) (n1 c1 : Nat) (a1 : List ByteArray) (a2 : Int) (a3 : Int) (w : World) (_ : (Lit.int .i64 a0).wf = true) (_ : SliceIs w (.slice s1 n1 c1) 1 (a1.map .string) ∧ ∀ s ∈ a1, s.size ≤ maxLen) (_ : (Lit.int .i64 a2).wf = true) (_ : (Lit.int .i64 a3).wf = true) (hE : ∀ c ∈ [2, 8], Has E w c ∧ Sent w (E c)) (_ : ∀ c ∈ [2, 8], ∀ c' ∈ [2, 8], c ≠ c' → E c ≠ E c') :
    Calls Tryd.prog 3 #[.int .i64 a0, .slice s1 n1 c1, .int .i64 a2, .int .i64 a3] w fun e w' => e = .returned (.bool true) ∧ Below w.heap.size w w' := by
  rename_i wf0 hsl0 wf2 wf3 hne
  obtain ⟨hsl, hsz⟩ := hsl0
  have HB := Lib.hid (hE 2 (by simp)).1
  have HF := Lib.hid (hE 8 (by simp)).1
  have WD := Lib.hid (windowed_ok E w HB.out HF.out)
  rw [strs_of] at hsl
  have hln : (a1.map fun s => s.data.toList).length = n1 ∧ n1 ≤ c1 ∧ c1 ≤ maxLen := by
    obtain ⟨s, n, c, e, h1, h2, h3, _⟩ := hsl.get
    cases e
    simp at h1
    exact ⟨by simp; omega, h2, h3⟩
  have hsmall : ∀ x ∈ (a1.map fun s => s.data.toList), x.length ≤ maxLen := by
    intro x hx
    obtain ⟨s, hs, rfl⟩ := List.mem_map.1 hx
    have := hsz s hs
    simpa using this
  generalize (a1.map fun s => s.data.toList) = L at *
  obtain ⟨rfl, hn1, hc1⟩ := hln
  unfold maxLen at hc1
  have HSL := Lib.hid hsl
  have HSM := Lib.hid hsmall
  clear hsl hsmall hsz hE hne wf0 wf2 wf3
  by_cases hlen : L.length ≤ 60
  · have hlI : ¬ (60 : Int) < L.length := by omega
    have hst := stN_well a0
    have NS := Lib.hid (fun w' => newsnd_any a0 w')
    have NR := Lib.hid (fun w' => newrcv_any a0 w')
    have N0 := Lib.hid (numI_zero hst)
    generalize stN a0 = st at *
    have A23 := Lib.hid (fun w' => wahead_any a2 a3 w')
    have A32 := Lib.hid (fun w' => wahead_any a3 a2 w')
    have A22 := Lib.hid (fun w' => wahead_any a2 a2 w')
    rw [ahead_self] at A22
    have HN := Lib.hid (ahead_not a2 a3)
    generalize hx : aheadB a2 a3 = x at *
    clear hx
    cases x with
    | true =>
      rw [HN.out rfl] at A32
      clear HN
      go_enter Tryd.func3, Tryd.ntmps3
      go_wp2_with fail
      refine WD.out.mono ?_
      rintro e w1 ⟨rfl, b1⟩
      go_wp2_with fail
      refine (A23.out _).mono ?_
      rintro e w1' ⟨rfl, rfl⟩
      go_wp2_with fail
      refine (A32.out _).mono ?_
      rintro e w1' ⟨rfl, rfl⟩
      go_wp2_with fail
      refine (A22.out _).mono ?_
      rintro e w1' ⟨rfl, rfl⟩
      go_wp2_with fail
      refine (NS.out _).mono ?_
      rintro e w2 ⟨sb, rfl, hsnd, b2⟩
      go_wp2_with fail
      refine (NR.out _).mono ?_
      rintro e w3 ⟨rb, mb, rfl, hrcv, b3, q1, q2⟩
      have W3 := Lib.hid (WinS.begin hsnd b2 hrcv b3 q1 q2)
      have B1 := Lib.hid b1
      clear hsnd b2 hrcv b3 q1 q2 b1
      go_wp2_with fail
      go_loopw [13, 12, 14, 15, 16, 17] (fun i last _ _ _ _ wr => ∃ (k : Nat) (F : Nat → Prop), i = .int .i64 k ∧ k ≤ L.length ∧ last = .int .i64 (lastI st k) ∧ WinS w1 wr F sb rb mb (3 * k) (numI st k) [] (numI st k) []) (fun i _ _ _ _ _ _ => L.length - (intOf i).toNat)
      case atStart => exact ⟨0, _, rfl, by omega, by rw [lastI_zero], by rw [N0.out]; exact W3.out⟩
      case round =>
        obtain ⟨k, F, rfl, hk, rfl, WR⟩ := hrel
        have HW := Lib.hid WR
        clear WR
        by_cases hlt : k < L.length
        · have hltI : (k : Int) < L.length := by omega
          obtain ⟨sA, nA, cA, eA, _, _, _, gA⟩ := HSL.out.get
          cases eA
          obtain ⟨ad, rfl, _⟩ := gA k (.string (bs L[k])) (by simp; exact ⟨_, List.getElem?_eq_getElem hlt, rfl⟩)
          have CT := Lib.hid (fun (W : World) (hb : Below w1.heap.size w1 W) => show W.cell? (ad.add k) = some (.string (bs L[k])) by
            obtain ⟨s', n', c', e', _, _, _, g'⟩ := (HSL.out.below (below_trans' B1.out hb)).get
            cases e'
            obtain ⟨a', ha', h⟩ := g' k (.string (bs L[k])) (by simp; exact ⟨_, List.getElem?_eq_getElem hlt, rfl⟩)
            cases ha'
            exact h)
          have HSK := Lib.hid (HSM.out L[k] (List.getElem_mem _))
          clear gA
          have KK := Lib.hid (show k + 1 ≤ L.length by omega)
          have x1 : (0 : Int) ≤ k := by omega
          have x2 : (k : Int).toNat = k := by omega
          generalize L[k] = x at CT HSK
          have c0 := CT.out _ HW.out.bel
          have hsz : (bs x).size = x.length := bs_size x
          by_cases hbig : 60 < x.length
          · have hbI : (60 : Int) < (bs x).size := by omega
            generalize bs x = X at *
            go_wp2_with fail
            go_ret
            exact ⟨rfl, below_trans' B1.out HW.out.bel⟩
          · have hbI : ¬ (60 : Int) < (bs x).size := by omega
            have hnum := numI_bd st k
            have hnx := numI_succ st k
            generalize hn0 : numI st k = n at *
            have PU := push_w E x HW.out (by unfold maxLen; omega) (HB.out.below B1.out) (HF.out.below B1.out) (by omega)
            rw [rd_push (by omega), rd_n, rd_x, rd_l, ev_zero] at PU
            have HPU := Lib.hid PU
            have TKA := Lib.hid (rd_take (n := n) (s := x) hnum)
            have AGA := Lib.hid (rd_again (n := n) (s := x) hnum)
            have STA := Lib.hid (rd_stake (n := n) (s := x) hnum)
            have WFN := Lib.hid (wf_well hnum)
            have HNX := Lib.hid hnx
            have HN0 := Lib.hid hn0
            have HX := Lib.hid hsz
            clear PU hnx hn0
            rcases Nat.eq_zero_or_pos k with hk0 | hkp
            · rw [show lastI st k = -1 by rw [hk0, lastI_zero]]
              clear hk0
              go_wp2_with fail
              refine HPU.out.mono ?_
              rintro e w4 ⟨rfl, F4, W4, L4⟩
              have c4 := CT.out _ W4.bel
              have H4 := Lib.hid W4
              clear W4 L4 c0
              go_wp2_with fail
              have TK := rtake_w n x H4.out WFN.out (by unfold maxLen; omega) (by omega)
              rw [TKA.out] at TK
              have HTK := Lib.hid TK
              clear TK
              refine HTK.out.mono ?_
              rintro e w5 ⟨r5, rfl, hr5, W5, L5⟩
              have hr5 : w5.ownsRow w4.heap.size 9 1 r5 1 ([x].map fun x => Value.string (bs x)) := hr5
              have HR5 := Lib.hid hr5
              have c5 := CT.out _ W5.bel
              have hF5 := Lib.hid (fun y (hy : r5.ownBlock = some y) (hf : F4 y) => by have a := (hr5.lt y hy).1; have b := (H4.out.lo y hf).2; omega : ∀ y, r5.ownBlock = some y → ¬ F4 y)
              have H5 := Lib.hid W5
              obtain ⟨va, vc, rfl⟩ := owns_slice hr5
              clear W5 L5 c4 hr5 HTK
              go_wp2_with fail
              have TK := rtake_w n x H5.out WFN.out (by unfold maxLen; omega) (by omega)
              rw [AGA.out] at TK
              have HTK := Lib.hid TK
              clear TK
              refine HTK.out.mono ?_
              rintro e w6 ⟨r6, rfl, hr6, W6, L6⟩
              have hr6 : w6.ownsRow w5.heap.size 9 1 r6 0 [] := hr6
              have HR6 := Lib.hid (own_later HR5.out L6 hF5.out)
              have c6 := CT.out _ W6.bel
              have H6 := Lib.hid W6
              obtain ⟨vb, vd, rfl⟩ := owns_slice hr6
              clear W6 L6 c5 hr6 HTK
              have hsz6 : w6.heap.size < (w6.alloc (.cells #[.string (bs x)] 9)).heap.size := by simp
              have SM := sameTexts_is (.slice va 1 vc) (.slice (some ⟨w6.heap.size, 0, none⟩) 1 1) [x] [x] _ ((SliceIs.owned HR6.out).below (wb_alloc w6 _)) (sliceIs_lit _ _ x 9 (heap_alloc_new w6 _))
              rw [show ([x] == [x]) = true by simp] at SM
              have AK := fun q => rack_w (H6.out.below (w' := (w6.alloc (.cells #[.string (bs x)] 9)).drewN q) (below_drewN (wb_alloc w6 _) q))
              simp only [rd_ack] at AK
              have HSM2 := Lib.hid SM
              have HAK := Lib.hid AK
              clear SM AK
              go_wp2_with fail
              refine HSM2.out.mono ?_
              rintro e w7 ⟨rfl, nq, rfl⟩
              go_wp2_with fail
              refine (HAK.out nq).mono ?_
              rintro e w8 ⟨mv, rfl, hm, hmv, W8, b8⟩
              have ST := stake_w mv (md (n + 1)) [] W8 hm hmv (by omega)
              rw [STA.out] at ST
              have HST := Lib.hid ST
              clear ST hm hmv W8 b8
              go_wp2_with fail
              refine HST.out.mono ?_
              rintro e w9 ⟨rfl, F9, W9, L9⟩
              have KP := kept_w W9 (by omega)
              have HKP := Lib.hid KP
              clear KP W9 L9
              go_wp2_with fail
              refine HKP.out.mono ?_
              rintro e w10 ⟨r10, rfl, hr10, W10, b10⟩
              have hr10 : w10.ownsRow w9.heap.size 3 1 r10 0 [] := hr10
              obtain ⟨ve, vf, rfl⟩ := owns_slice hr10
              have H10 := Lib.hid W10
              clear W10 b10 hr10
              go_wp2_with fail
              go_roundw
              case rel => exact ⟨k + 1, F9, by go_num, KK.out, by rw [lastI_succ, HN0.out], by rw [← HNX.out]; exact H10.out.more (by omega)⟩
              case measure => simp [intOf]; omega
            · obtain ⟨j, hjk⟩ : ∃ j, k = j + 1 := ⟨k - 1, by omega⟩
              rw [show lastI st k = numI st j by rw [hjk, lastI_succ]]
              have hj := numI_bd st j
              have AN := Lib.hid (fun w' => wahead_any (numI st j) n w')
              have hjn : md (numI st j + 1) = n := by rw [numI_succ, ← hjk, HN0.out]
              rw [show aheadB (numI st j) n = true by rw [← hjn]; exact ahead_next hj] at AN
              generalize numI st j = last at *
              obtain ⟨hj1, hj2⟩ := hj
              clear hjn hjk
              go_wp2_with fail
              refine HPU.out.mono ?_
              rintro e w4 ⟨rfl, F4, W4, L4⟩
              have c4 := CT.out _ W4.bel
              have H4 := Lib.hid W4
              clear W4 L4 c0
              go_wp2_with fail
              refine (AN.out _).mono ?_
              rintro e w4' ⟨rfl, rfl⟩
              go_wp2_with fail
              have TK := rtake_w n x H4.out WFN.out (by unfold maxLen; omega) (by omega)
              rw [TKA.out] at TK
              have HTK := Lib.hid TK
              clear TK
              refine HTK.out.mono ?_
              rintro e w5 ⟨r5, rfl, hr5, W5, L5⟩
              have hr5 : w5.ownsRow w4.heap.size 9 1 r5 1 ([x].map fun x => Value.string (bs x)) := hr5
              have HR5 := Lib.hid hr5
              have c5 := CT.out _ W5.bel
              have hF5 := Lib.hid (fun y (hy : r5.ownBlock = some y) (hf : F4 y) => by have a := (hr5.lt y hy).1; have b := (H4.out.lo y hf).2; omega : ∀ y, r5.ownBlock = some y → ¬ F4 y)
              have H5 := Lib.hid W5
              obtain ⟨va, vc, rfl⟩ := owns_slice hr5
              clear W5 L5 c4 hr5 HTK
              go_wp2_with fail
              have TK := rtake_w n x H5.out WFN.out (by unfold maxLen; omega) (by omega)
              rw [AGA.out] at TK
              have HTK := Lib.hid TK
              clear TK
              refine HTK.out.mono ?_
              rintro e w6 ⟨r6, rfl, hr6, W6, L6⟩
              have hr6 : w6.ownsRow w5.heap.size 9 1 r6 0 [] := hr6
              have HR6 := Lib.hid (own_later HR5.out L6 hF5.out)
              have c6 := CT.out _ W6.bel
              have H6 := Lib.hid W6
              obtain ⟨vb, vd, rfl⟩ := owns_slice hr6
              clear W6 L6 c5 hr6 HTK
              have hsz6 : w6.heap.size < (w6.alloc (.cells #[.string (bs x)] 9)).heap.size := by simp
              have SM := sameTexts_is (.slice va 1 vc) (.slice (some ⟨w6.heap.size, 0, none⟩) 1 1) [x] [x] _ ((SliceIs.owned HR6.out).below (wb_alloc w6 _)) (sliceIs_lit _ _ x 9 (heap_alloc_new w6 _))
              rw [show ([x] == [x]) = true by simp] at SM
              have AK := fun q => rack_w (H6.out.below (w' := (w6.alloc (.cells #[.string (bs x)] 9)).drewN q) (below_drewN (wb_alloc w6 _) q))
              simp only [rd_ack] at AK
              have HSM2 := Lib.hid SM
              have HAK := Lib.hid AK
              clear SM AK
              go_wp2_with fail
              refine HSM2.out.mono ?_
              rintro e w7 ⟨rfl, nq, rfl⟩
              go_wp2_with fail
              refine (HAK.out nq).mono ?_
              rintro e w8 ⟨mv, rfl, hm, hmv, W8, b8⟩
              have ST := stake_w mv (md (n + 1)) [] W8 hm hmv (by omega)
              rw [STA.out] at ST
              have HST := Lib.hid ST
              clear ST hm hmv W8 b8
              go_wp2_with fail
              refine HST.out.mono ?_
              rintro e w9 ⟨rfl, F9, W9, L9⟩
              have KP := kept_w W9 (by omega)
              have HKP := Lib.hid KP
              clear KP W9 L9
              go_wp2_with fail
              refine HKP.out.mono ?_
              rintro e w10 ⟨r10, rfl, hr10, W10, b10⟩
              have hr10 : w10.ownsRow w9.heap.size 3 1 r10 0 [] := hr10
              obtain ⟨ve, vf, rfl⟩ := owns_slice hr10
              have H10 := Lib.hid W10
              clear W10 b10 hr10
              go_wp2_with fail
              go_roundw
              case rel => exact ⟨k + 1, F9, by go_num, KK.out, by rw [lastI_succ, HN0.out], by rw [← HNX.out]; exact H10.out.more (by omega)⟩
              case measure => simp [intOf]; omega
        · have hltI : ¬ (k : Int) < L.length := by omega
          go_wp2_with fail
          go_ret
          exact ⟨rfl, below_trans' B1.out HW.out.bel⟩
    | false =>
      clear HN A32
      go_enter Tryd.func3, Tryd.ntmps3
      go_wp2_with fail
      refine WD.out.mono ?_
      rintro e w1 ⟨rfl, b1⟩
      go_wp2_with fail
      refine (A23.out _).mono ?_
      rintro e w1' ⟨rfl, rfl⟩
      go_wp2_with fail
      refine (A22.out _).mono ?_
      rintro e w1' ⟨rfl, rfl⟩
      go_wp2_with fail
      refine (NS.out _).mono ?_
      rintro e w2 ⟨sb, rfl, hsnd, b2⟩
      go_wp2_with fail
      refine (NR.out _).mono ?_
      rintro e w3 ⟨rb, mb, rfl, hrcv, b3, q1, q2⟩
      have W3 := Lib.hid (WinS.begin hsnd b2 hrcv b3 q1 q2)
      have B1 := Lib.hid b1
      clear hsnd b2 hrcv b3 q1 q2 b1
      go_wp2_with fail
      go_loopw [13, 12, 14, 15, 16, 17] (fun i last _ _ _ _ wr => ∃ (k : Nat) (F : Nat → Prop), i = .int .i64 k ∧ k ≤ L.length ∧ last = .int .i64 (lastI st k) ∧ WinS w1 wr F sb rb mb (3 * k) (numI st k) [] (numI st k) []) (fun i _ _ _ _ _ _ => L.length - (intOf i).toNat)
      case atStart => exact ⟨0, _, rfl, by omega, by rw [lastI_zero], by rw [N0.out]; exact W3.out⟩
      case round =>
        obtain ⟨k, F, rfl, hk, rfl, WR⟩ := hrel
        have HW := Lib.hid WR
        clear WR
        by_cases hlt : k < L.length
        · have hltI : (k : Int) < L.length := by omega
          obtain ⟨sA, nA, cA, eA, _, _, _, gA⟩ := HSL.out.get
          cases eA
          obtain ⟨ad, rfl, _⟩ := gA k (.string (bs L[k])) (by simp; exact ⟨_, List.getElem?_eq_getElem hlt, rfl⟩)
          have CT := Lib.hid (fun (W : World) (hb : Below w1.heap.size w1 W) => show W.cell? (ad.add k) = some (.string (bs L[k])) by
            obtain ⟨s', n', c', e', _, _, _, g'⟩ := (HSL.out.below (below_trans' B1.out hb)).get
            cases e'
            obtain ⟨a', ha', h⟩ := g' k (.string (bs L[k])) (by simp; exact ⟨_, List.getElem?_eq_getElem hlt, rfl⟩)
            cases ha'
            exact h)
          have HSK := Lib.hid (HSM.out L[k] (List.getElem_mem _))
          clear gA
          have KK := Lib.hid (show k + 1 ≤ L.length by omega)
          have x1 : (0 : Int) ≤ k := by omega
          have x2 : (k : Int).toNat = k := by omega
          generalize L[k] = x at CT HSK
          have c0 := CT.out _ HW.out.bel
          have hsz : (bs x).size = x.length := bs_size x
          by_cases hbig : 60 < x.length
          · have hbI : (60 : Int) < (bs x).size := by omega
            generalize bs x = X at *
            go_wp2_with fail
            go_ret
            exact ⟨rfl, below_trans' B1.out HW.out.bel⟩
          · have hbI : ¬ (60 : Int) < (bs x).size := by omega
            have hnum := numI_bd st k
            have hnx := numI_succ st k
            generalize hn0 : numI st k = n at *
            have PU := push_w E x HW.out (by unfold maxLen; omega) (HB.out.below B1.out) (HF.out.below B1.out) (by omega)
            rw [rd_push (by omega), rd_n, rd_x, rd_l, ev_zero] at PU
            have HPU := Lib.hid PU
            have TKA := Lib.hid (rd_take (n := n) (s := x) hnum)
            have AGA := Lib.hid (rd_again (n := n) (s := x) hnum)
            have STA := Lib.hid (rd_stake (n := n) (s := x) hnum)
            have WFN := Lib.hid (wf_well hnum)
            have HNX := Lib.hid hnx
            have HN0 := Lib.hid hn0
            have HX := Lib.hid hsz
            clear PU hnx hn0
            rcases Nat.eq_zero_or_pos k with hk0 | hkp
            · rw [show lastI st k = -1 by rw [hk0, lastI_zero]]
              clear hk0
              go_wp2_with fail
              refine HPU.out.mono ?_
              rintro e w4 ⟨rfl, F4, W4, L4⟩
              have c4 := CT.out _ W4.bel
              have H4 := Lib.hid W4
              clear W4 L4 c0
              go_wp2_with fail
              have TK := rtake_w n x H4.out WFN.out (by unfold maxLen; omega) (by omega)
              rw [TKA.out] at TK
              have HTK := Lib.hid TK
              clear TK
              refine HTK.out.mono ?_
              rintro e w5 ⟨r5, rfl, hr5, W5, L5⟩
              have hr5 : w5.ownsRow w4.heap.size 9 1 r5 1 ([x].map fun x => Value.string (bs x)) := hr5
              have HR5 := Lib.hid hr5
              have c5 := CT.out _ W5.bel
              have hF5 := Lib.hid (fun y (hy : r5.ownBlock = some y) (hf : F4 y) => by have a := (hr5.lt y hy).1; have b := (H4.out.lo y hf).2; omega : ∀ y, r5.ownBlock = some y → ¬ F4 y)
              have H5 := Lib.hid W5
              obtain ⟨va, vc, rfl⟩ := owns_slice hr5
              clear W5 L5 c4 hr5 HTK
              go_wp2_with fail
              have TK := rtake_w n x H5.out WFN.out (by unfold maxLen; omega) (by omega)
              rw [AGA.out] at TK
              have HTK := Lib.hid TK
              clear TK
              refine HTK.out.mono ?_
              rintro e w6 ⟨r6, rfl, hr6, W6, L6⟩
              have hr6 : w6.ownsRow w5.heap.size 9 1 r6 0 [] := hr6
              have HR6 := Lib.hid (own_later HR5.out L6 hF5.out)
              have c6 := CT.out _ W6.bel
              have H6 := Lib.hid W6
              obtain ⟨vb, vd, rfl⟩ := owns_slice hr6
              clear W6 L6 c5 hr6 HTK
              have hsz6 : w6.heap.size < (w6.alloc (.cells #[.string (bs x)] 9)).heap.size := by simp
              have SM := sameTexts_is (.slice va 1 vc) (.slice (some ⟨w6.heap.size, 0, none⟩) 1 1) [x] [x] _ ((SliceIs.owned HR6.out).below (wb_alloc w6 _)) (sliceIs_lit _ _ x 9 (heap_alloc_new w6 _))
              rw [show ([x] == [x]) = true by simp] at SM
              have AK := fun q => rack_w (H6.out.below (w' := (w6.alloc (.cells #[.string (bs x)] 9)).drewN q) (below_drewN (wb_alloc w6 _) q))
              simp only [rd_ack] at AK
              have HSM2 := Lib.hid SM
              have HAK := Lib.hid AK
              clear SM AK
              go_wp2_with fail
              refine HSM2.out.mono ?_
              rintro e w7 ⟨rfl, nq, rfl⟩
              go_wp2_with fail
              refine (HAK.out nq).mono ?_
              rintro e w8 ⟨mv, rfl, hm, hmv, W8, b8⟩
              have ST := stake_w mv (md (n + 1)) [] W8 hm hmv (by omega)
              rw [STA.out] at ST
              have HST := Lib.hid ST
              clear ST hm hmv W8 b8
              go_wp2_with fail
              refine HST.out.mono ?_
              rintro e w9 ⟨rfl, F9, W9, L9⟩
              have KP := kept_w W9 (by omega)
              have HKP := Lib.hid KP
              clear KP W9 L9
              go_wp2_with fail
              refine HKP.out.mono ?_
              rintro e w10 ⟨r10, rfl, hr10, W10, b10⟩
              have hr10 : w10.ownsRow w9.heap.size 3 1 r10 0 [] := hr10
              obtain ⟨ve, vf, rfl⟩ := owns_slice hr10
              have H10 := Lib.hid W10
              clear W10 b10 hr10
              go_wp2_with fail
              go_roundw
              case rel => exact ⟨k + 1, F9, by go_num, KK.out, by rw [lastI_succ, HN0.out], by rw [← HNX.out]; exact H10.out.more (by omega)⟩
              case measure => simp [intOf]; omega
            · obtain ⟨j, hjk⟩ : ∃ j, k = j + 1 := ⟨k - 1, by omega⟩
              rw [show lastI st k = numI st j by rw [hjk, lastI_succ]]
              have hj := numI_bd st j
              have AN := Lib.hid (fun w' => wahead_any (numI st j) n w')
              have hjn : md (numI st j + 1) = n := by rw [numI_succ, ← hjk, HN0.out]
              rw [show aheadB (numI st j) n = true by rw [← hjn]; exact ahead_next hj] at AN
              generalize numI st j = last at *
              obtain ⟨hj1, hj2⟩ := hj
              clear hjn hjk
              go_wp2_with fail
              refine HPU.out.mono ?_
              rintro e w4 ⟨rfl, F4, W4, L4⟩
              have c4 := CT.out _ W4.bel
              have H4 := Lib.hid W4
              clear W4 L4 c0
              go_wp2_with fail
              refine (AN.out _).mono ?_
              rintro e w4' ⟨rfl, rfl⟩
              go_wp2_with fail
              have TK := rtake_w n x H4.out WFN.out (by unfold maxLen; omega) (by omega)
              rw [TKA.out] at TK
              have HTK := Lib.hid TK
              clear TK
              refine HTK.out.mono ?_
              rintro e w5 ⟨r5, rfl, hr5, W5, L5⟩
              have hr5 : w5.ownsRow w4.heap.size 9 1 r5 1 ([x].map fun x => Value.string (bs x)) := hr5
              have HR5 := Lib.hid hr5
              have c5 := CT.out _ W5.bel
              have hF5 := Lib.hid (fun y (hy : r5.ownBlock = some y) (hf : F4 y) => by have a := (hr5.lt y hy).1; have b := (H4.out.lo y hf).2; omega : ∀ y, r5.ownBlock = some y → ¬ F4 y)
              have H5 := Lib.hid W5
              obtain ⟨va, vc, rfl⟩ := owns_slice hr5
              clear W5 L5 c4 hr5 HTK
              go_wp2_with fail
              have TK := rtake_w n x H5.out WFN.out (by unfold maxLen; omega) (by omega)
              rw [AGA.out] at TK
              have HTK := Lib.hid TK
              clear TK
              refine HTK.out.mono ?_
              rintro e w6 ⟨r6, rfl, hr6, W6, L6⟩
              have hr6 : w6.ownsRow w5.heap.size 9 1 r6 0 [] := hr6
              have HR6 := Lib.hid (own_later HR5.out L6 hF5.out)
              have c6 := CT.out _ W6.bel
              have H6 := Lib.hid W6
              obtain ⟨vb, vd, rfl⟩ := owns_slice hr6
              clear W6 L6 c5 hr6 HTK
              have hsz6 : w6.heap.size < (w6.alloc (.cells #[.string (bs x)] 9)).heap.size := by simp
              have SM := sameTexts_is (.slice va 1 vc) (.slice (some ⟨w6.heap.size, 0, none⟩) 1 1) [x] [x] _ ((SliceIs.owned HR6.out).below (wb_alloc w6 _)) (sliceIs_lit _ _ x 9 (heap_alloc_new w6 _))
              rw [show ([x] == [x]) = true by simp] at SM
              have AK := fun q => rack_w (H6.out.below (w' := (w6.alloc (.cells #[.string (bs x)] 9)).drewN q) (below_drewN (wb_alloc w6 _) q))
              simp only [rd_ack] at AK
              have HSM2 := Lib.hid SM
              have HAK := Lib.hid AK
              clear SM AK
              go_wp2_with fail
              refine HSM2.out.mono ?_
              rintro e w7 ⟨rfl, nq, rfl⟩
              go_wp2_with fail
              refine (HAK.out nq).mono ?_
              rintro e w8 ⟨mv, rfl, hm, hmv, W8, b8⟩
              have ST := stake_w mv (md (n + 1)) [] W8 hm hmv (by omega)
              rw [STA.out] at ST
              have HST := Lib.hid ST
              clear ST hm hmv W8 b8
              go_wp2_with fail
              refine HST.out.mono ?_
              rintro e w9 ⟨rfl, F9, W9, L9⟩
              have KP := kept_w W9 (by omega)
              have HKP := Lib.hid KP
              clear KP W9 L9
              go_wp2_with fail
              refine HKP.out.mono ?_
              rintro e w10 ⟨r10, rfl, hr10, W10, b10⟩
              have hr10 : w10.ownsRow w9.heap.size 3 1 r10 0 [] := hr10
              obtain ⟨ve, vf, rfl⟩ := owns_slice hr10
              have H10 := Lib.hid W10
              clear W10 b10 hr10
              go_wp2_with fail
              go_roundw
              case rel => exact ⟨k + 1, F9, by go_num, KK.out, by rw [lastI_succ, HN0.out], by rw [← HNX.out]; exact H10.out.more (by omega)⟩
              case measure => simp [intOf]; omega
        · have hltI : ¬ (k : Int) < L.length := by omega
          go_wp2_with fail
          go_ret
          exact ⟨rfl, below_trans' B1.out HW.out.bel⟩
  · have hlI : (60 : Int) < L.length := by omega
    go_enter Tryd.func3, Tryd.ntmps3
    go_wp2_with fail
    refine WD.out.mono ?_
    rintro e w1 ⟨rfl, b1⟩
    go_wp2_with fail
    go_ret
    exact ⟨rfl, b1⟩
end Go.Proofs.YtiomenchdaondaaDoor
