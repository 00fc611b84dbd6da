/- PatchTells: what Apply and Whole tell is the document's. -/
import Derived.Test.YtphigoclkkgpoaaDoorRefPatch
import Derived.Test.YtphigoclkkgpoaaDoorWhole
import Derived.Test.YtphigoclkkgpoaaDoorPatchParts
import Derived.Test.YtphigoclkkgpoaaDoorCodedYes
namespace Go.Proofs.YtphigoclkkgpoaaDoor
open Go.RowKit
set_option linter.unusedVariables false

theorem chkO_code (l : List POp) : ∀ i, (chkO l i).1 ≤ 4 := by
  induction l with
  | nil => intro i; rw [chkO]; decide
  | cons o l ih => intro i; rw [chkO]; split; · exact ih _
                   · have := opC_cases o; show opC o ≤ 4; omega
theorem chkOps_code (l : List POp) : (chkOps l).1 ≤ 4 := by unfold chkOps; exact chkO_code l 0
theorem appA_code (old : List UInt8) (size : Nat) : ∀ (l : List POp) (i : Nat) (out : List UInt8), (appA old size l i out).1.1 ≤ 8
  | [], i, out => by rw [appA_nil]; show 0 ≤ 8; omega
  | o :: l, i, out => by
    rw [appA_cons]
    split
    · have := pieceC_cases old size o; show (pieceC old size o).1 ≤ 8; omega
    · split
      · show 8 ≤ 8; omega
      · exact appA_code old size l _ _
theorem appl_code (old : List UInt8) (size : Int) (l : List POp) : (appl old size l).1.1 ≤ 8 := by
  by_cases hok : (1 ≤ size ∧ size ≤ 64) ∧ old.length ≤ 4000
  · by_cases hc : (chkOps l).1 = 0
    · rw [appl_yes hok hc]; exact appA_code _ _ _ _ _
    · rw [appl_bad hok hc]; have := chkOps_code l; show (chkOps l).1 ≤ 8; omega
  · rw [appl_no hok]; decide

set_option maxRecDepth 100000 in
set_option maxHeartbeats 6400000 in
theorem patchTells_walk (E : Nat → Addr) (a0 : ByteArray) (a1 : Int) (s2 : Option Addr) (n2 c2 : Nat) (a2 : List POp) (a3 : Int) (a4 : Int) (w : World) (_ : a0.size ≤ maxLen) (_ : (Lit.int .i64 a1).wf = true) (hs : SliceIs w (.slice s2 n2 c2) POp.cells (a2.flatMap POp.vals) ∧ ∀ x ∈ a2, x.ok) (_ : (Lit.int .i64 a3).wf = true) (hw4 : (Lit.int .u32 a4).wf = true) (hh : Hand w) (h1 : ∀ c ∈ [1, 2, 3, 4, 5, 6, 7, 8, 9, 10, 11, 12], Has E w c ∧ Sent w (E c)) (h2 : ∀ c ∈ [1, 2, 3, 4, 5, 6, 7, 8, 9, 10, 11, 12], ∀ c' ∈ [1, 2, 3, 4, 5, 6, 7, 8, 9, 10, 11, 12], c ≠ c' → E c ≠ E c') :
    Calls Tryd.prog 6 #[.string a0, .int .i64 a1, .slice s2 n2 c2, .int .i64 a3, .int .u32 a4] w fun e w' => e = .returned (.bool true) ∧ Below w.heap.size w w' := by
  have hE := Errs.of hh h1 h2
  have HE := Lib.hid hE
  have H2 := Lib.hid (hE.has 2 (by omega) (by omega))
  have H3 := Lib.hid (hE.has 3 (by omega) (by omega))
  have H4 := Lib.hid (hE.has 4 (by omega) (by omega))
  have H6 := Lib.hid (hE.has 6 (by omega) (by omega))
  have H8 := Lib.hid (hE.has 8 (by omega) (by omega))
  have H10 := Lib.hid (hE.has 10 (by omega) (by omega))
  obtain ⟨hs, _⟩ := hs
  rw [ocells_is] at hs
  have hs : SliceIs w (.slice s2 n2 c2) 4 (ocells a2) := hs
  obtain ⟨rfl, hc0, hc1⟩ := ops_len hs
  obtain ⟨cn, rfl, hcn⟩ := u32_of_wf hw4
  have PO := Lib.hid (patched_ok E w H2.out H3.out H4.out H6.out H8.out)
  have LO := Lib.hid (fun (w' : World) (b : Below w.heap.size w w') => longOps_any s2 a2.length c2 a2 w' (hs.below b))
  have HS := Lib.hid hs
  clear hh h1 h2 hE hs hw4
  obtain ⟨O, rfl⟩ : ∃ O, a0 = bs O := ⟨a0.data.toList, (bs_of _).symm⟩
  by_cases h0 : O.length ≤ 300 ∨ O.length = 4001
  · have h0I : ¬ (300 : Int) < O.length ∨ (300 : Int) < O.length ∧ ((O.length : Int) != 4001) = false := by
      rcases h0 with h | h
      · exact .inl (by omega)
      · exact .inr ⟨by omega, by rw [bne_eq_false_iff_eq]; omega⟩
    clear h0
    by_cases hl : longB a2 = false
    · rw [hl] at LO
      obtain ⟨l40, _⟩ := longB_no hl
      have OO := Lib.hid (fun (w' : World) (b : Below w.heap.size w w') => ownOps_any s2 a2.length c2 a2 w' (HS.out.below b) (by omega))
      have RP := Lib.hid (fun (w' : World) (b : Below w.heap.size w w') => rpatch_any O a1 s2 a2.length c2 a2 w' (HS.out.below b))
      simp only [rfv_is] at RP
      have hcode := appl_code O a1 a2
      have AP := Lib.hid (fun (w' : World) A cap (b : Below w.heap.size w w') h => apply_any E O a1 A a2.length cap a2 w' h (H2.out.below b) (H3.out.below b) (H4.out.below b) (H6.out.below b) (H8.out.below b))
      have WH := Lib.hid (fun (n c : Int) (w' : World) A cap (b : Below w.heap.size w w') h => whole_any E O a1 A a2.length cap a2 n c w' h (H2.out.below b) (H3.out.below b) (H4.out.below b) (H6.out.below b) (H8.out.below b) (H10.out.below b))
      have WBAD := Lib.hid (fun (n c : Int) => wh_bad (old := O) (size := a1) (l := a2) (n := n) (c := c))
      have WFINE := Lib.hid (fun (n c : Int) => wh_fine (old := O) (size := a1) (l := a2) (n := n) (c := c))
      have WSUM := Lib.hid (fun (n c : Int) => wh_sum (old := O) (size := a1) (l := a2) (n := n) (c := c))
      have hlen4 : (appl O a1 a2).1.1 = 0 → (appl O a1 a2).2.length ≤ 4000 := fun h => by rw [(appl_zero h).2.2.1]; exact (appl_zero h).2.2.2.2
      have HL4 := Lib.hid hlen4
      have HERR := Lib.hid (appl_err (old := O) (size := a1) (l := a2))
      clear hl hlen4
      generalize hap : appl O a1 a2 = ap at *
      have HAPQ := Lib.hid hap
      clear hap
      obtain ⟨⟨code, at'⟩, out⟩ := ap
      simp only [] at hcode RP AP WBAD WFINE WSUM HL4 HERR
      by_cases hc : code = 0
      · subst hc
        have SO := Lib.hid (fun w' => sumOf_any (bs out) w' (by rw [bs_size]; have := HL4.out rfl; omega))
        rw [bs_list] at SO
        have hcl := csum_lt out
        have hcm : ((csum out : Nat) : Int) % 4294967296 = (csum out : Nat) := by omega
        have hl4 := HL4.out rfl
        have Z9 := Lib.hid (WFINE.out (out.length : Int) (csum out : Int) rfl ⟨rfl, rfl⟩)
        have hwl : True := trivial
        by_cases hn : (out.length : Int) = a3
        · by_cases hsm : csum out = cn
          · have Z := Lib.hid (WFINE.out a3 (cn : Int) rfl ⟨hn, by omega⟩)
            subst hn
            subst hsm
            clear WBAD WFINE WSUM HERR
            rcases h0I with h0I | ⟨h0I, h0J⟩
            all_goals
              go_enter Tryd.func6, Tryd.ntmps6
              go_wp2_with (first | (go_at_call 9; refine PO.out.mono ?_; rintro e w0 ⟨rfl, b0⟩) | (go_at_call 31; refine (LO.out _ b0).mono ?_; rintro e wq ⟨rfl, rfl⟩))
              refine (OO.out _ b0).mono ?_
              rintro e w1 ⟨v1, rfl, hown1, b1⟩
              have b01 := below_trans' b0 b1
              obtain ⟨A1, cap1, hv1⟩ := owns_slice hown1
              rw [hv1] at hown1 ⊢
              have HS1 := Lib.hid (SliceIs.ownedK hown1)
              clear hown1 hv1 b0 b1
              go_wp2_with fail
              refine (AP.out w1 _ _ b01 HS1.out).mono ?_
              rintro e w2 ⟨v2, rfl, fe2, b2⟩
              have FE2 := Lib.hid fe2
              have b02 := below_trans' b01 b2
              clear fe2 b01 b2 HS1
              go_wp2_with fail
              refine (RP.out w2 b02).mono ?_
              rintro e w3 ⟨rfl, b3⟩
              have FE3 := Lib.hid (FE2.out.below b3)
              have b03 := below_trans' b02 b3
              clear b02 b3 FE2
              have bf := below_one w3 (.cells #[.int .i64 ((0 : Nat) : Int), .int .i64 at'] 62)
              have hzf : (w3.alloc (.cells #[.int .i64 ((0 : Nat) : Int), .int .i64 at'] 62)).heap[w3.heap.size]? = some (.cells #[.int .i64 ((0 : Nat) : Int), .int .i64 at'] 62 (0, 0)) := heap_alloc_new _ _
              go_wp2_with fail
              have FE4 := Lib.hid (FE3.out.below bf)
              have b04 := below_trans' b03 bf
              generalize w3.heap.size = fb at *
              generalize w3.alloc (.cells #[.int .i64 ((0 : Nat) : Int), .int .i64 at'] 62) = w4 at *
              have FB := Lib.hid (fun (w' : World) (b : Below w4.heap.size w4 w') => show w'.cell? ⟨fb, 0, none⟩ = some (.int .i64 ((0 : Nat) : Int)) ∧ w'.cell? ⟨fb, 1, none⟩ = some (.int .i64 at') from by
                have h := (b.block fb (lt_of_block hzf)).trans hzf
                constructor <;> simp [World.cell?, h])
              clear bf hzf b03 FE3
              refine (faulted_yes E v2 0 at' w4 FE4.out (HE.out.below b04) (by omega)).mono ?_
              rintro e w5 ⟨rfl, b5⟩
              have b05 := below_trans' b04 b5
              have b45 := b5
              obtain ⟨d0, d1⟩ := FB.out w5 b45
              clear b04 b5 FE4
              go_wp2_with fail
              refine (OO.out _ b05).mono ?_
              rintro e w6 ⟨v6, rfl, hown6, b6⟩
              have b06 := below_trans' b05 b6
              have b46 := below_trans' b45 b6
              obtain ⟨A6, cap6, hv6⟩ := owns_slice hown6
              rw [hv6] at hown6 ⊢
              have HS6 := Lib.hid (SliceIs.ownedK hown6)
              clear hown6 hv6 b05 b6 b45 d0 d1
              go_wp2_with fail
              have WC := WH.out (out.length : Int) (csum out : Int) w6 _ _ b06 HS6.out
              rw [Z.out.1, Z.out.2] at WC
              simp only [] at WC
              refine WC.mono ?_
              rintro e w7 ⟨v7, rfl, fe7, b7⟩
              have FE7 := Lib.hid fe7
              have b07 := below_trans' b06 b7
              have b47 := below_trans' b46 b7
              obtain ⟨d0, d1⟩ := FB.out w7 b47
              clear fe7 b06 b7 b46 HS6 WC
              have hv7 := FE7.out.zero
              rw [hv7]
              go_wp2_with (first | (go_at_call 36; refine (SO.out _).mono ?_; rintro e wq ⟨rfl, rfl⟩))
              refine (OO.out _ b07).mono ?_
              rintro e w8 ⟨v8, rfl, hown8, b8⟩
              have b08 := below_trans' b07 b8
              obtain ⟨A8, cap8, hv8⟩ := owns_slice hown8
              rw [hv8] at hown8 ⊢
              have HS8 := Lib.hid (SliceIs.ownedK hown8)
              clear hown8 hv8 b07 b8 b47 d0 d1
              go_wp2_with (go_at_call 36; refine (SO.out _).mono ?_; rintro e wq ⟨rfl, rfl⟩)
              have WD := WH.out (out.length : Int) (csum out : Int) w8 _ _ b08 HS8.out
              rw [Z9.out.1, Z9.out.2] at WD
              refine WD.mono ?_
              rintro e w9 ⟨v9, rfl, fe9, b9⟩
              rw [fe9.zero]
              have b09 := below_trans' b08 b9
              clear fe9 WD b08 b9
              go_wp2_with fail
              go_ret
              exact ⟨rfl, b09⟩
          · have Z := Lib.hid (WSUM.out a3 (cn : Int) rfl (fun h => hsm (by have := h.2; omega)))
            have hsb : ((csum out : Int) == (cn : Int)) = false := by rw [beq_eq_false_iff_ne]; omega
            subst hn
            clear WBAD WFINE WSUM HERR hsm
            rcases h0I with h0I | ⟨h0I, h0J⟩
            all_goals
              go_enter Tryd.func6, Tryd.ntmps6
              go_wp2_with (first | (go_at_call 9; refine PO.out.mono ?_; rintro e w0 ⟨rfl, b0⟩) | (go_at_call 31; refine (LO.out _ b0).mono ?_; rintro e wq ⟨rfl, rfl⟩))
              refine (OO.out _ b0).mono ?_
              rintro e w1 ⟨v1, rfl, hown1, b1⟩
              have b01 := below_trans' b0 b1
              obtain ⟨A1, cap1, hv1⟩ := owns_slice hown1
              rw [hv1] at hown1 ⊢
              have HS1 := Lib.hid (SliceIs.ownedK hown1)
              clear hown1 hv1 b0 b1
              go_wp2_with fail
              refine (AP.out w1 _ _ b01 HS1.out).mono ?_
              rintro e w2 ⟨v2, rfl, fe2, b2⟩
              have FE2 := Lib.hid fe2
              have b02 := below_trans' b01 b2
              clear fe2 b01 b2 HS1
              go_wp2_with fail
              refine (RP.out w2 b02).mono ?_
              rintro e w3 ⟨rfl, b3⟩
              have FE3 := Lib.hid (FE2.out.below b3)
              have b03 := below_trans' b02 b3
              clear b02 b3 FE2
              have bf := below_one w3 (.cells #[.int .i64 ((0 : Nat) : Int), .int .i64 at'] 62)
              have hzf : (w3.alloc (.cells #[.int .i64 ((0 : Nat) : Int), .int .i64 at'] 62)).heap[w3.heap.size]? = some (.cells #[.int .i64 ((0 : Nat) : Int), .int .i64 at'] 62 (0, 0)) := heap_alloc_new _ _
              go_wp2_with fail
              have FE4 := Lib.hid (FE3.out.below bf)
              have b04 := below_trans' b03 bf
              generalize w3.heap.size = fb at *
              generalize w3.alloc (.cells #[.int .i64 ((0 : Nat) : Int), .int .i64 at'] 62) = w4 at *
              have FB := Lib.hid (fun (w' : World) (b : Below w4.heap.size w4 w') => show w'.cell? ⟨fb, 0, none⟩ = some (.int .i64 ((0 : Nat) : Int)) ∧ w'.cell? ⟨fb, 1, none⟩ = some (.int .i64 at') from by
                have h := (b.block fb (lt_of_block hzf)).trans hzf
                constructor <;> simp [World.cell?, h])
              clear bf hzf b03 FE3
              refine (faulted_yes E v2 0 at' w4 FE4.out (HE.out.below b04) (by omega)).mono ?_
              rintro e w5 ⟨rfl, b5⟩
              have b05 := below_trans' b04 b5
              have b45 := b5
              obtain ⟨d0, d1⟩ := FB.out w5 b45
              clear b04 b5 FE4
              go_wp2_with fail
              refine (OO.out _ b05).mono ?_
              rintro e w6 ⟨v6, rfl, hown6, b6⟩
              have b06 := below_trans' b05 b6
              have b46 := below_trans' b45 b6
              obtain ⟨A6, cap6, hv6⟩ := owns_slice hown6
              rw [hv6] at hown6 ⊢
              have HS6 := Lib.hid (SliceIs.ownedK hown6)
              clear hown6 hv6 b05 b6 b45 d0 d1
              go_wp2_with fail
              have WC := WH.out (out.length : Int) (cn : Int) w6 _ _ b06 HS6.out
              rw [Z.out.1, Z.out.2] at WC
              simp only [bs_nil] at WC
              refine WC.mono ?_
              rintro e w7 ⟨v7, rfl, fe7, b7⟩
              have FE7 := Lib.hid fe7
              have b07 := below_trans' b06 b7
              have b47 := below_trans' b46 b7
              obtain ⟨d0, d1⟩ := FB.out w7 b47
              clear fe7 b06 b7 b46 HS6 WC
              go_wp2_with (first | (go_at_call 36; refine (SO.out _).mono ?_; rintro e wq ⟨rfl, rfl⟩))
              refine (coded_yes E v7 10 w7 FE7.out (HE.out.below b07) (by omega)).mono ?_
              rintro e w8' ⟨rfl, b8⟩
              have b07' := below_trans' b07 b8
              clear b07 b8 FE7
              have b07 := b07'
              clear b07'
              go_wp2_with fail
              refine (OO.out _ b07).mono ?_
              rintro e w8 ⟨v8, rfl, hown8, b8⟩
              have b08 := below_trans' b07 b8
              obtain ⟨A8, cap8, hv8⟩ := owns_slice hown8
              rw [hv8] at hown8 ⊢
              have HS8 := Lib.hid (SliceIs.ownedK hown8)
              clear hown8 hv8 b07 b8 b47 d0 d1
              go_wp2_with (go_at_call 36; refine (SO.out _).mono ?_; rintro e wq ⟨rfl, rfl⟩)
              have WD := WH.out (out.length : Int) (csum out : Int) w8 _ _ b08 HS8.out
              rw [Z9.out.1, Z9.out.2] at WD
              refine WD.mono ?_
              rintro e w9 ⟨v9, rfl, fe9, b9⟩
              rw [fe9.zero]
              have b09 := below_trans' b08 b9
              clear fe9 WD b08 b9
              go_wp2_with fail
              go_ret
              exact ⟨rfl, b09⟩
        · have Z := Lib.hid (WSUM.out a3 (cn : Int) rfl (fun h => hn h.1))
          have hnb : ((out.length : Int) == a3) = false := by rw [beq_eq_false_iff_ne]; exact hn
          clear WBAD WFINE WSUM HERR hn
          rcases h0I with h0I | ⟨h0I, h0J⟩
          all_goals
            go_enter Tryd.func6, Tryd.ntmps6
            go_wp2_with (first | (go_at_call 9; refine PO.out.mono ?_; rintro e w0 ⟨rfl, b0⟩) | (go_at_call 31; refine (LO.out _ b0).mono ?_; rintro e wq ⟨rfl, rfl⟩))
            refine (OO.out _ b0).mono ?_
            rintro e w1 ⟨v1, rfl, hown1, b1⟩
            have b01 := below_trans' b0 b1
            obtain ⟨A1, cap1, hv1⟩ := owns_slice hown1
            rw [hv1] at hown1 ⊢
            have HS1 := Lib.hid (SliceIs.ownedK hown1)
            clear hown1 hv1 b0 b1
            go_wp2_with fail
            refine (AP.out w1 _ _ b01 HS1.out).mono ?_
            rintro e w2 ⟨v2, rfl, fe2, b2⟩
            have FE2 := Lib.hid fe2
            have b02 := below_trans' b01 b2
            clear fe2 b01 b2 HS1
            go_wp2_with fail
            refine (RP.out w2 b02).mono ?_
            rintro e w3 ⟨rfl, b3⟩
            have FE3 := Lib.hid (FE2.out.below b3)
            have b03 := below_trans' b02 b3
            clear b02 b3 FE2
            have bf := below_one w3 (.cells #[.int .i64 ((0 : Nat) : Int), .int .i64 at'] 62)
            have hzf : (w3.alloc (.cells #[.int .i64 ((0 : Nat) : Int), .int .i64 at'] 62)).heap[w3.heap.size]? = some (.cells #[.int .i64 ((0 : Nat) : Int), .int .i64 at'] 62 (0, 0)) := heap_alloc_new _ _
            go_wp2_with fail
            have FE4 := Lib.hid (FE3.out.below bf)
            have b04 := below_trans' b03 bf
            generalize w3.heap.size = fb at *
            generalize w3.alloc (.cells #[.int .i64 ((0 : Nat) : Int), .int .i64 at'] 62) = w4 at *
            have FB := Lib.hid (fun (w' : World) (b : Below w4.heap.size w4 w') => show w'.cell? ⟨fb, 0, none⟩ = some (.int .i64 ((0 : Nat) : Int)) ∧ w'.cell? ⟨fb, 1, none⟩ = some (.int .i64 at') from by
              have h := (b.block fb (lt_of_block hzf)).trans hzf
              constructor <;> simp [World.cell?, h])
            clear bf hzf b03 FE3
            refine (faulted_yes E v2 0 at' w4 FE4.out (HE.out.below b04) (by omega)).mono ?_
            rintro e w5 ⟨rfl, b5⟩
            have b05 := below_trans' b04 b5
            have b45 := b5
            obtain ⟨d0, d1⟩ := FB.out w5 b45
            clear b04 b5 FE4
            go_wp2_with fail
            refine (OO.out _ b05).mono ?_
            rintro e w6 ⟨v6, rfl, hown6, b6⟩
            have b06 := below_trans' b05 b6
            have b46 := below_trans' b45 b6
            obtain ⟨A6, cap6, hv6⟩ := owns_slice hown6
            rw [hv6] at hown6 ⊢
            have HS6 := Lib.hid (SliceIs.ownedK hown6)
            clear hown6 hv6 b05 b6 b45 d0 d1
            go_wp2_with fail
            have WC := WH.out a3 (cn : Int) w6 _ _ b06 HS6.out
            rw [Z.out.1, Z.out.2] at WC
            simp only [bs_nil] at WC
            refine WC.mono ?_
            rintro e w7 ⟨v7, rfl, fe7, b7⟩
            have FE7 := Lib.hid fe7
            have b07 := below_trans' b06 b7
            have b47 := below_trans' b46 b7
            obtain ⟨d0, d1⟩ := FB.out w7 b47
            clear fe7 b06 b7 b46 HS6 WC
            go_wp2_with (first | (go_at_call 36; refine (SO.out _).mono ?_; rintro e wq ⟨rfl, rfl⟩))
            refine (coded_yes E v7 10 w7 FE7.out (HE.out.below b07) (by omega)).mono ?_
            rintro e w8' ⟨rfl, b8⟩
            have b07' := below_trans' b07 b8
            clear b07 b8 FE7
            have b07 := b07'
            clear b07'
            go_wp2_with fail
            refine (OO.out _ b07).mono ?_
            rintro e w8 ⟨v8, rfl, hown8, b8⟩
            have b08 := below_trans' b07 b8
            obtain ⟨A8, cap8, hv8⟩ := owns_slice hown8
            rw [hv8] at hown8 ⊢
            have HS8 := Lib.hid (SliceIs.ownedK hown8)
            clear hown8 hv8 b07 b8 b47 d0 d1
            go_wp2_with (go_at_call 36; refine (SO.out _).mono ?_; rintro e wq ⟨rfl, rfl⟩)
            have WD := WH.out (out.length : Int) (csum out : Int) w8 _ _ b08 HS8.out
            rw [Z9.out.1, Z9.out.2] at WD
            refine WD.mono ?_
            rintro e w9 ⟨v9, rfl, fe9, b9⟩
            rw [fe9.zero]
            have b09 := below_trans' b08 b9
            clear fe9 WD b08 b9
            go_wp2_with fail
            go_ret
            exact ⟨rfl, b09⟩
      · have Z := Lib.hid (WBAD.out a3 (cn : Int) hc)
        have hcI : (0 : Int) < code := by omega
        obtain rfl : out = [] := HERR.out hc
        clear WBAD WFINE WSUM HERR HL4 hc
        simp only [bs_nil] at RP AP
        rcases h0I with h0I | ⟨h0I, h0J⟩
        all_goals
          go_enter Tryd.func6, Tryd.ntmps6
          go_wp2_with (first | (go_at_call 9; refine PO.out.mono ?_; rintro e w0 ⟨rfl, b0⟩) | (go_at_call 31; refine (LO.out _ b0).mono ?_; rintro e wq ⟨rfl, rfl⟩))
          refine (OO.out _ b0).mono ?_
          rintro e w1 ⟨v1, rfl, hown1, b1⟩
          have b01 := below_trans' b0 b1
          obtain ⟨A1, cap1, hv1⟩ := owns_slice hown1
          rw [hv1] at hown1 ⊢
          have HS1 := Lib.hid (SliceIs.ownedK hown1)
          clear hown1 hv1 b0 b1
          go_wp2_with fail
          refine (AP.out w1 _ _ b01 HS1.out).mono ?_
          rintro e w2 ⟨v2, rfl, fe2, b2⟩
          have FE2 := Lib.hid fe2
          have b02 := below_trans' b01 b2
          clear fe2 b01 b2 HS1
          go_wp2_with fail
          refine (RP.out w2 b02).mono ?_
          rintro e w3 ⟨rfl, b3⟩
          have FE3 := Lib.hid (FE2.out.below b3)
          have b03 := below_trans' b02 b3
          clear b02 b3 FE2
          have bf := below_one w3 (.cells #[.int .i64 code, .int .i64 at'] 62)
          have hzf : (w3.alloc (.cells #[.int .i64 code, .int .i64 at'] 62)).heap[w3.heap.size]? = some (.cells #[.int .i64 code, .int .i64 at'] 62 (0, 0)) := heap_alloc_new _ _
          go_wp2_with fail
          have FE4 := Lib.hid (FE3.out.below bf)
          have b04 := below_trans' b03 bf
          generalize w3.heap.size = fb at *
          generalize w3.alloc (.cells #[.int .i64 code, .int .i64 at'] 62) = w4 at *
          have FB := Lib.hid (fun (w' : World) (b : Below w4.heap.size w4 w') => show w'.cell? ⟨fb, 0, none⟩ = some (.int .i64 code) ∧ w'.cell? ⟨fb, 1, none⟩ = some (.int .i64 at') from by
            have h := (b.block fb (lt_of_block hzf)).trans hzf
            constructor <;> simp [World.cell?, h])
          clear bf hzf b03 FE3
          refine (faulted_yes E v2 code at' w4 FE4.out (HE.out.below b04) (by omega)).mono ?_
          rintro e w5 ⟨rfl, b5⟩
          have b05 := below_trans' b04 b5
          have b45 := b5
          obtain ⟨d0, d1⟩ := FB.out w5 b45
          clear b04 b5 FE4
          go_wp2_with fail
          refine (OO.out _ b05).mono ?_
          rintro e w6 ⟨v6, rfl, hown6, b6⟩
          have b06 := below_trans' b05 b6
          have b46 := below_trans' b45 b6
          obtain ⟨A6, cap6, hv6⟩ := owns_slice hown6
          rw [hv6] at hown6 ⊢
          have HS6 := Lib.hid (SliceIs.ownedK hown6)
          clear hown6 hv6 b05 b6 b45 d0 d1
          go_wp2_with fail
          have WC := WH.out a3 (cn : Int) w6 _ _ b06 HS6.out
          rw [Z.out.1, Z.out.2] at WC
          simp only [bs_nil] at WC
          refine WC.mono ?_
          rintro e w7 ⟨v7, rfl, fe7, b7⟩
          have FE7 := Lib.hid fe7
          have b07 := below_trans' b06 b7
          have b47 := below_trans' b46 b7
          obtain ⟨d0, d1⟩ := FB.out w7 b47
          clear fe7 b06 b7 b46 HS6 WC
          go_wp2_with fail
          refine (faulted_yes E v7 code at' w7 FE7.out (HE.out.below b07) (by omega)).mono ?_
          rintro e w8 ⟨rfl, b8⟩
          go_wp2_with fail
          go_ret
          exact ⟨rfl, below_trans' b07 b8⟩
    · have hl : longB a2 = true := by simpa using hl
      rw [hl] at LO
      rcases h0I with h0I | ⟨h0I, h0J⟩
      all_goals
        go_enter Tryd.func6, Tryd.ntmps6
        go_wp2_with (first | (go_at_call 9; refine PO.out.mono ?_; rintro e w0 ⟨rfl, b0⟩) | (go_at_call 31; refine (LO.out _ b0).mono ?_; rintro e wq ⟨rfl, rfl⟩))
        go_ret
        exact ⟨rfl, b0⟩
  · have hI1 : (300 : Int) < O.length := by omega
    have hI2 : ((O.length : Int) != 4001) = true := by rw [bne_iff_ne]; omega
    clear h0
    go_enter Tryd.func6, Tryd.ntmps6
    go_wp2_with (go_at_call 9; refine PO.out.mono ?_; rintro e w0 ⟨rfl, b0⟩)
    go_ret
    exact ⟨rfl, b0⟩
end Go.Proofs.YtphigoclkkgpoaaDoor
