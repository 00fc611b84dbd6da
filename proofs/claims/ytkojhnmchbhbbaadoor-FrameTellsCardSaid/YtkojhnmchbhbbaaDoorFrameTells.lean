/- FrameTells: what package frame tells is the document's: any frame, any bytes. -/
import Derived.Test.YtkojhnmchbhbbaaDoorFramed
import Derived.Test.YtkojhnmchbhbbaaDoorRefRead
import Derived.Test.YtkojhnmchbhbbaaDoorCodedYes
namespace Go.Proofs.YtkojhnmchbhbbaaDoor
open Go.RowKit
set_option linter.unusedVariables false

theorem rnC_le (l : List UInt8) {c : Nat} (h : c ≤ 12) : rnC l c ≤ 12 := by
  unfold rnC
  have := gC_cases l
  split <;> omega
theorem rtC_le (l : List UInt8) {c : Nat} (h : c ≤ 12) : rtC l c ≤ 12 := by
  unfold rtC
  have := tC_cases l
  split <;> omega
theorem rEnd_le' (l : List UInt8) {c : Nat} (h : c ≤ 12) : rEnd l c ≤ 12 := by
  unfold rEnd
  split <;> omega
theorem frC_le (f : PFr) : frC f ≤ 4 := by
  unfold frC
  split
  · omega
  · split <;> omega
theorem decF_code (L : List UInt8) : (decF L).2 ≤ 12 := by
  unfold decF
  split
  · show 1 ≤ 12; omega
  · split
    · show 10 ≤ 12; omega
    · split
      · show 1 ≤ 12; omega
      · rename_i k l _
        split
        · exact rEnd_le' _ (rtC_le _ (rnC_le _ (rnC_le _ (Nat.zero_le _))))
        · split
          · have := frC_le (rdF k l).1; show frC (rdF k l).1 ≤ 12; omega
          · show 0 ≤ 12; omega
attribute [local irreducible] frB lowL rdF decF frT frC

set_option maxRecDepth 100000 in
set_option maxHeartbeats 12800000 in
theorem frameTells_walk (E : Nat → Addr) (a0 : PFr) (a1 : ByteArray) (w : World) (_ : a0.ok) (_ : a1.size ≤ maxLen) (hh : Hand w) (h1 : ∀ c ∈ [1, 2, 3, 4, 5, 6, 7, 8, 9, 10, 11, 12], Has E w c ∧ Sent w (E c)) (h2 : ∀ c ∈ [1, 2, 3, 4, 5, 6, 7, 8, 9, 10, 11, 12], ∀ c' ∈ [1, 2, 3, 4, 5, 6, 7, 8, 9, 10, 11, 12], c ≠ c' → E c ≠ E c') :
    Calls Tryd.prog 7 #[a0.val, .string a1] w fun e w' => e = .returned (.bool true) ∧ Below w.heap.size w w' := by
  have hE := Errs.of hh h1 h2
  have HE := Lib.hid hE
  have H1 := Lib.hid (hE.has 1 (by omega) (by omega))
  have H2 := Lib.hid (hE.has 2 (by omega) (by omega))
  have H4 := Lib.hid (hE.has 4 (by omega) (by omega))
  have H10 := Lib.hid (hE.has 10 (by omega) (by omega))
  clear h1 h2 hh hE
  have FO := Lib.hid (fun (w' : World) (b : Below w.heap.size w w') => framed_ok E w' (H1.out.below b) (H2.out.below b) (H4.out.below b) (H10.out.below b))
  rw [PFr.val_is]
  have HA := Lib.hid (below_alloc' w (.cells #[.int .u8 a0.k.toNat, .int .i64 a0.e, .int .i64 a0.q, .string (bs a0.d)] 49))
  have hz0 := heap_alloc_new w (.cells #[.int .u8 a0.k.toNat, .int .i64 a0.e, .int .i64 a0.q, .string (bs a0.d)] 49)
  have FC := Lib.hid (fun (w' : World) (b : Below (w.alloc (.cells #[.int .u8 a0.k.toNat, .int .i64 a0.e, .int .i64 a0.q, .string (bs a0.d)] 49)).heap.size (w.alloc (.cells #[.int .u8 a0.k.toNat, .int .i64 a0.e, .int .i64 a0.q, .string (bs a0.d)] 49)) w') => (b.block _ (lt_of_block hz0)).trans hz0)
  clear hz0
  go_enter Tryd.func7, Tryd.ntmps7
  go_wp2_with fail
  refine (FO.out _ HA.out).mono ?_
  rintro e w3 ⟨rfl, b3⟩
  have b03 := Lib.hid (below_trans' HA.out b3)
  have hz3 := FC.out _ b3
  obtain ⟨⟨c0, c1, c2, c3⟩, _⟩ := cells4 hz3
  clear FC HA FO b3
  by_cases hlen : (a0.d.length ≤ 200 ∨ a0.d.length = 20001) ∧ a1.size ≤ 300
  · obtain ⟨l0, l1⟩ := hlen
    have l1I : ¬ (300 : Int) < a1.size := by omega
    have l0I : ¬ (200 : Int) < a0.d.length ∨ (200 : Int) < a0.d.length ∧ ((a0.d.length : Int) != 20001) = false := by
      rcases l0 with h | h
      · exact .inl (by omega)
      · exact .inr ⟨by omega, by rw [bne_eq_false_iff_eq]; omega⟩
    clear l0
    have HB5 := Lib.hid (b03.out.alloc b03.out.size (.cells #[.int .u8 a0.k.toNat, .int .i64 a0.e, .int .i64 a0.q, .string (bs a0.d)] 50))
    have hy0 := heap_alloc_new w3 (.cells #[.int .u8 a0.k.toNat, .int .i64 a0.e, .int .i64 a0.q, .string (bs a0.d)] 50)
    have hx0 := ((below_alloc' w3 (.cells #[.int .u8 a0.k.toNat, .int .i64 a0.e, .int .i64 a0.q, .string (bs a0.d)] 50)).block w.heap.size (lt_of_block hz3)).trans hz3
    clear hz3
    obtain ⟨⟨k0, k1, k2, k3⟩, _⟩ := cells4 hx0
    have FE := fun (w' : World) => rfrerr_any a0 w'
    have EN := fun (w' : World) (b : Below w.heap.size w w') => fenc_any E a0 w' (H2.out.below b) (H4.out.below b)
    have CK := fun (w' : World) (b : Below w.heap.size w w') => fcheck_any E a0 w' (H2.out.below b) (H4.out.below b)
    have FT := fun (h : frC a0 = 0) (w' : World) => rfrtext_any a0 h w'
    have CD := Lib.hid (fun (w' : World) (b : Below w.heap.size w w') => coded_ev E (frC a0) w' (HE.out.below b) (by have := frC_le a0; omega))
    simp only [PFr.val_is] at FE EN CK FT
    have HFE := Lib.hid FE
    have HEN := Lib.hid EN
    have HCK := Lib.hid CK
    have HFT := Lib.hid FT
    have DE := fun (w' : World) (b : Below w.heap.size w w') => fdec_any E a1 w' (by omega) (H1.out.below b) (H2.out.below b) (H4.out.below b) (H10.out.below b)
    have RF := fun (w' : World) => rreadframe_any a1 w' (by omega)
    have hcode := decF_code a1.data.toList
    generalize decF a1.data.toList = fc at *
    obtain ⟨f, d⟩ := fc
    simp only [PFr.val_is] at DE RF hcode
    have HDE := Lib.hid DE
    have HRF := Lib.hid RF
    have CD2 := Lib.hid (fun (w' : World) (b : Below w.heap.size w w') => coded_ev E d w' (HE.out.below b) hcode)
    clear FE EN CK FT DE RF hcode
    have EY := Lib.hid (encL_yes (f := a0))
    have EZ := Lib.hid (encL_no (f := a0))
    generalize hcc : frC a0 = c at *
    rcases l0I with l0I | ⟨l0I, l0J⟩
    all_goals
      go_wp2_with fail
      generalize w3.alloc (.cells #[.int .u8 a0.k.toNat, .int .i64 a0.e, .int .i64 a0.q, .string (bs a0.d)] 50) = w5 at *
      generalize w3.heap.size = g at *
      refine (HFE.out w5).mono ?_
      rintro e w6 ⟨rfl, b6⟩
      have b06 := below_trans' HB5.out b6
      have hx1 := (b6.block w.heap.size (lt_of_block hx0)).trans hx0
      have hy1 := (b6.block g (lt_of_block hy0)).trans hy0
      clear c0 c1 c2 c3 k0 k1 k2 k3 hx0 hy0 b6 b03 HB5
      obtain ⟨⟨k0, k1, k2, k3⟩, _⟩ := cells4 hy1
      go_wp2_with fail
      refine (HEN.out w6 b06).mono ?_
      rintro e w7 ⟨rfl, b7⟩
      have b07 := below_trans' b06 b7
      have hx2 := (b7.block w.heap.size (lt_of_block hx1)).trans hx1
      have hy2 := (b7.block g (lt_of_block hy1)).trans hy1
      clear k0 k1 k2 k3 hx1 hy1 b7 b06
      obtain ⟨⟨k0, k1, k2, k3⟩, _⟩ := cells4 hy2
      go_wp2_with fail
      refine (HCK.out w7 b07).mono ?_
      rintro e w8 ⟨rfl, b8⟩
      have b08 := below_trans' b07 b8
      have hx3 := (b8.block w.heap.size (lt_of_block hx2)).trans hx2
      clear k0 k1 k2 k3 hx2 hy2 b8 b07
      go_wp2_with fail
      refine (CD.out w8 b08).mono ?_
      rintro e w9 ⟨rfl, b9⟩
      have b09 := below_trans' b08 b9
      have hx4 := (b9.block w.heap.size (lt_of_block hx3)).trans hx3
      clear hx3 b9 b08
      go_wp2_with fail
      refine (CD.out w9 b09).mono ?_
      rintro e wa ⟨rfl, ba⟩
      have b0a := below_trans' b09 ba
      have hx5 := (ba.block w.heap.size (lt_of_block hx4)).trans hx4
      clear hx4 ba b09
      obtain ⟨⟨k0, k1, k2, k3⟩, _⟩ := cells4 hx5
      by_cases hc : c = 0
      · have HT := HFT.out hc
        rw [← EY.out hc] at HT
        have HTT := Lib.hid HT
        have hcI : ¬ (0 : Int) < c := by omega
        have hcb : ((c : Int) == 0) = true := by rw [beq_iff_eq]; omega
        clear HT hc EY EZ HFT hcc hx5
        go_wp2_with fail
        refine (HTT.out wa).mono ?_
        rintro e wb ⟨rfl, bb⟩
        have b0b := below_trans' b0a bb
        clear b0a bb k0 k1 k2 k3
        go_wp2_with fail
        refine (HDE.out wb b0b).mono ?_
        rintro e wd ⟨rfl, bd⟩
        have b0d := below_trans' b0b bd
        have b0e := b0d.alloc b0d.size (.cells #[.int .u8 f.k.toNat, .int .i64 f.e, .int .i64 f.q, .string (bs f.d)] 50)
        have hq0 := heap_alloc_new wd (.cells #[.int .u8 f.k.toNat, .int .i64 f.e, .int .i64 f.q, .string (bs f.d)] 50)
        go_wp2_with fail
        generalize wd.alloc (.cells #[.int .u8 f.k.toNat, .int .i64 f.e, .int .i64 f.q, .string (bs f.d)] 50) = we at *
        generalize wd.heap.size = g1 at *
        refine (HRF.out we).mono ?_
        rintro e wf ⟨rfl, bf⟩
        have b0f := below_trans' b0e bf
        have hq1 := (bf.block g1 (lt_of_block hq0)).trans hq0
        have b0g := b0f.alloc b0f.size (.cells #[.int .u8 f.k.toNat, .int .i64 f.e, .int .i64 f.q, .string (bs f.d)] 49)
        have hq2 := ((below_alloc' wf (.cells #[.int .u8 f.k.toNat, .int .i64 f.e, .int .i64 f.q, .string (bs f.d)] 49)).block g1 (lt_of_block hq1)).trans hq1
        have hq3 := heap_alloc_new wf (.cells #[.int .u8 f.k.toNat, .int .i64 f.e, .int .i64 f.q, .string (bs f.d)] 49)
        clear hq0 hq1 b0e b0d bd bf
        go_wp2_with fail
        generalize wf.alloc (.cells #[.int .u8 f.k.toNat, .int .i64 f.e, .int .i64 f.q, .string (bs f.d)] 49) = wg at *
        generalize wf.heap.size = g2 at *
        refine (CD2.out wg b0g).mono ?_
        rintro e wh ⟨rfl, bh⟩
        have bz := below_trans' b0g bh
        obtain ⟨⟨p0, p1, p2, p3⟩, _⟩ := cells4 ((bh.block g1 (lt_of_block hq2)).trans hq2)
        obtain ⟨⟨s0, s1, s2, s3⟩, _⟩ := cells4 ((bh.block g2 (lt_of_block hq3)).trans hq3)
        clear hq2 hq3 b0g bh b0f
        go_wp2_with fail
        go_ret
        exact ⟨rfl, bz⟩
      · have hcI : (0 : Int) < c := by omega
        have hcb : ((c : Int) == 0) = false := by rw [beq_eq_false_iff_ne]; omega
        rw [EZ.out hc, bs_nil]
        clear hc EY EZ HFT hcc hx5
        go_wp2_with fail
        refine (HDE.out wa b0a).mono ?_
        rintro e wd ⟨rfl, bd⟩
        have b0d := below_trans' b0a bd
        have b0e := b0d.alloc b0d.size (.cells #[.int .u8 f.k.toNat, .int .i64 f.e, .int .i64 f.q, .string (bs f.d)] 50)
        have hq0 := heap_alloc_new wd (.cells #[.int .u8 f.k.toNat, .int .i64 f.e, .int .i64 f.q, .string (bs f.d)] 50)
        go_wp2_with fail
        generalize wd.alloc (.cells #[.int .u8 f.k.toNat, .int .i64 f.e, .int .i64 f.q, .string (bs f.d)] 50) = we at *
        generalize wd.heap.size = g1 at *
        refine (HRF.out we).mono ?_
        rintro e wf ⟨rfl, bf⟩
        have b0f := below_trans' b0e bf
        have hq1 := (bf.block g1 (lt_of_block hq0)).trans hq0
        have b0g := b0f.alloc b0f.size (.cells #[.int .u8 f.k.toNat, .int .i64 f.e, .int .i64 f.q, .string (bs f.d)] 49)
        have hq2 := ((below_alloc' wf (.cells #[.int .u8 f.k.toNat, .int .i64 f.e, .int .i64 f.q, .string (bs f.d)] 49)).block g1 (lt_of_block hq1)).trans hq1
        have hq3 := heap_alloc_new wf (.cells #[.int .u8 f.k.toNat, .int .i64 f.e, .int .i64 f.q, .string (bs f.d)] 49)
        clear hq0 hq1 b0e b0d bd bf
        go_wp2_with fail
        generalize wf.alloc (.cells #[.int .u8 f.k.toNat, .int .i64 f.e, .int .i64 f.q, .string (bs f.d)] 49) = wg at *
        generalize wf.heap.size = g2 at *
        refine (CD2.out wg b0g).mono ?_
        rintro e wh ⟨rfl, bh⟩
        have bz := below_trans' b0g bh
        obtain ⟨⟨p0, p1, p2, p3⟩, _⟩ := cells4 ((bh.block g1 (lt_of_block hq2)).trans hq2)
        obtain ⟨⟨s0, s1, s2, s3⟩, _⟩ := cells4 ((bh.block g2 (lt_of_block hq3)).trans hq3)
        clear hq2 hq3 b0g bh b0f
        go_wp2_with fail
        go_ret
        exact ⟨rfl, bz⟩
  · have h3 : ((200 : Int) < a0.d.length ∧ ((a0.d.length : Int) != 20001) = true) ∨ (¬ (200 : Int) < a0.d.length ∨ (200 : Int) < a0.d.length ∧ ((a0.d.length : Int) != 20001) = false) ∧ (300 : Int) < a1.size := by
      rw [bne_iff_ne, bne_eq_false_iff_eq]; omega
    clear hlen
    rcases h3 with ⟨h, h'⟩ | ⟨h | ⟨h, h'⟩, h''⟩
    all_goals
      go_wp2_with fail
      go_ret
      exact ⟨rfl, b03.out⟩
end Go.Proofs.YtkojhnmchbhbbaaDoor
