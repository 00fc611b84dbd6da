/- FrameApart: two frames have one text only if they are one; what is read is written as it was. -/
import Derived.Test.YtkojhnmchbhbbaaDoorFramed
import Derived.Test.YtkojhnmchbhbbaaDoorArgFr
import Derived.Test.YtkojhnmchbhbbaaDoorLaid
namespace Go.Proofs.YtkojhnmchbhbbaaDoor
open Go.RowKit
set_option linter.unusedVariables false
attribute [local irreducible] frB lowL rdF decF frT frC

set_option maxRecDepth 100000 in
set_option maxHeartbeats 6400000 in
theorem frameApart_walk (E : Nat → Addr) (a0 a1 : PFr) (a2 : ByteArray) (w : World) (_ : a0.ok) (_ : a1.ok) (_ : a2.size ≤ maxLen) (h1 : ∀ c ∈ [1, 2, 4, 10], Has E w c ∧ Sent w (E c)) (h2 : ∀ c ∈ [1, 2, 4, 10], ∀ c' ∈ [1, 2, 4, 10], c ≠ c' → E c ≠ E c') :
    Calls Tryd.prog 5 #[a0.val, a1.val, .string a2] w fun e w' => e = .returned (.bool true) ∧ Below w.heap.size w w' := by
  have H1 := Lib.hid (h1 1 (by simp)).1
  have H2 := Lib.hid (h1 2 (by simp)).1
  have H4 := Lib.hid (h1 4 (by simp)).1
  have H10 := Lib.hid (h1 10 (by simp)).1
  clear h1 h2
  have FO := Lib.hid (fun (w' : World) (b : Below w.heap.size w w') => framed_ok E w' (H1.out.below b) (H2.out.below b) (H4.out.below b) (H10.out.below b))
  rw [PFr.val_is, PFr.val_is]
  have HA := Lib.hid (below_trans' (below_alloc' w (.cells #[.int .u8 a0.k.toNat, .int .i64 a0.e, .int .i64 a0.q, .string (bs a0.d)] 49)) (below_alloc' _ (.cells #[.int .u8 a1.k.toNat, .int .i64 a1.e, .int .i64 a1.q, .string (bs a1.d)] 49)))
  have hz0 := heap_alloc_new w (.cells #[.int .u8 a0.k.toNat, .int .i64 a0.e, .int .i64 a0.q, .string (bs a0.d)] 49)
  have hz1 := heap_alloc_new (w.alloc (.cells #[.int .u8 a0.k.toNat, .int .i64 a0.e, .int .i64 a0.q, .string (bs a0.d)] 49)) (.cells #[.int .u8 a1.k.toNat, .int .i64 a1.e, .int .i64 a1.q, .string (bs a1.d)] 49)
  have hz0 := ((below_alloc' (w.alloc (.cells #[.int .u8 a0.k.toNat, .int .i64 a0.e, .int .i64 a0.q, .string (bs a0.d)] 49)) (.cells #[.int .u8 a1.k.toNat, .int .i64 a1.e, .int .i64 a1.q, .string (bs a1.d)] 49)).block w.heap.size (lt_of_block hz0)).trans hz0
  have FC := Lib.hid (fun (w' : World) (b : Below ((w.alloc (.cells #[.int .u8 a0.k.toNat, .int .i64 a0.e, .int .i64 a0.q, .string (bs a0.d)] 49)).alloc (.cells #[.int .u8 a1.k.toNat, .int .i64 a1.e, .int .i64 a1.q, .string (bs a1.d)] 49)).heap.size ((w.alloc (.cells #[.int .u8 a0.k.toNat, .int .i64 a0.e, .int .i64 a0.q, .string (bs a0.d)] 49)).alloc (.cells #[.int .u8 a1.k.toNat, .int .i64 a1.e, .int .i64 a1.q, .string (bs a1.d)] 49)) w') => And.intro (cells4 ((b.block _ (lt_of_block hz0)).trans hz0)).1 (cells4 ((b.block _ (lt_of_block hz1)).trans hz1)).1)
  clear hz0 hz1
  go_enter Tryd.func5, Tryd.ntmps5
  go_wp2_with fail
  refine (FO.out _ HA.out).mono ?_
  rintro e w3 ⟨rfl, b3⟩
  have b03 := Lib.hid (below_trans' HA.out b3)
  obtain ⟨⟨c0, c1, c2, c3⟩, c4, c5, c6, c7⟩ := FC.out _ b3
  obtain ⟨_, d4, d5, d6, d7⟩ := FC.out _ (b3.alloc b3.size (.cells #[.int .u8 a0.k.toNat, .int .i64 a0.e, .int .i64 a0.q, .string (bs a0.d)] 50))
  rw [show (w.alloc (.cells #[.int .u8 a0.k.toNat, .int .i64 a0.e, .int .i64 a0.q, .string (bs a0.d)] 49)).heap.size = w.heap.size + 1 by simp] at c4 c5 c6 c7 d4 d5 d6 d7
  clear FC HA FO b3
  by_cases hlen : a0.d.length ≤ 100 ∧ a1.d.length ≤ 100 ∧ a2.size ≤ 300
  · obtain ⟨l0, l1, l2⟩ := hlen
    have l0I : ¬ (100 : Int) < a0.d.length := by omega
    have l1I : ¬ (100 : Int) < a1.d.length := by omega
    have l2I : ¬ (300 : Int) < a2.size := by omega
    go_wp2_with fail
    have HB5 := Lib.hid (b03.out.alloc b03.out.size (.cells #[.int .u8 a0.k.toNat, .int .i64 a0.e, .int .i64 a0.q, .string (bs a0.d)] 50))
    have HB6 := Lib.hid (HB5.out.alloc HB5.out.size (.cells #[.int .u8 a1.k.toNat, .int .i64 a1.e, .int .i64 a1.q, .string (bs a1.d)] 50))
    have hy0 := heap_alloc_new w3 (.cells #[.int .u8 a0.k.toNat, .int .i64 a0.e, .int .i64 a0.q, .string (bs a0.d)] 50)
    have hy0 := ((below_alloc' (w3.alloc (.cells #[.int .u8 a0.k.toNat, .int .i64 a0.e, .int .i64 a0.q, .string (bs a0.d)] 50)) (.cells #[.int .u8 a1.k.toNat, .int .i64 a1.e, .int .i64 a1.q, .string (bs a1.d)] 50)).block w3.heap.size (lt_of_block hy0)).trans hy0
    have hy1 := heap_alloc_new (w3.alloc (.cells #[.int .u8 a0.k.toNat, .int .i64 a0.e, .int .i64 a0.q, .string (bs a0.d)] 50)) (.cells #[.int .u8 a1.k.toNat, .int .i64 a1.e, .int .i64 a1.q, .string (bs a1.d)] 50)
    clear c0 c1 c2 c3 c4 c5 c6 c7 d4 d5 d6 d7 HB5 b03
    have EN0 := fun (w' : World) (b : Below w.heap.size w w') => fenc_any E a0 w' (H2.out.below b) (H4.out.below b)
    have EN1 := fun (w' : World) (b : Below w.heap.size w w') => fenc_any E a1 w' (H2.out.below b) (H4.out.below b)
    simp only [PFr.val_is] at EN0 EN1
    obtain ⟨v0, hv0⟩ : ∃ v, Hid (v = ev E (frC a0)) := ⟨_, Lib.hid rfl⟩
    obtain ⟨v1, hv1⟩ : ∃ v, Hid (v = ev E (frC a1)) := ⟨_, Lib.hid rfl⟩
    rw [← hv0.out] at EN0
    rw [← hv1.out] at EN1
    have HEN0 := Lib.hid EN0
    have HEN1 := Lib.hid EN1
    clear EN0 EN1
    rw [show (w3.alloc (.cells #[.int .u8 a0.k.toNat, .int .i64 a0.e, .int .i64 a0.q, .string (bs a0.d)] 50)).heap.size = w3.heap.size + 1 by simp] at hy1
    have hb7 := Below.refl (((w3.alloc (.cells #[.int .u8 a0.k.toNat, .int .i64 a0.e, .int .i64 a0.q, .string (bs a0.d)] 50)).alloc (.cells #[.int .u8 a1.k.toNat, .int .i64 a1.e, .int .i64 a1.q, .string (bs a1.d)] 50))).heap.size ((w3.alloc (.cells #[.int .u8 a0.k.toNat, .int .i64 a0.e, .int .i64 a0.q, .string (bs a0.d)] 50)).alloc (.cells #[.int .u8 a1.k.toNat, .int .i64 a1.e, .int .i64 a1.q, .string (bs a1.d)] 50))
    generalize (w3.alloc (.cells #[.int .u8 a0.k.toNat, .int .i64 a0.e, .int .i64 a0.q, .string (bs a0.d)] 50)).alloc (.cells #[.int .u8 a1.k.toNat, .int .i64 a1.e, .int .i64 a1.q, .string (bs a1.d)] 50) = w5 at *
    generalize w3.heap.size = g at *
    refine (HEN0.out w5 HB6.out).mono ?_
    rintro e w6 ⟨rfl, b6⟩
    have b06 := below_trans' HB6.out b6
    have hx0 := (b6.block g (lt_of_block hy0)).trans hy0
    have hx1 := (b6.block (g + 1) (lt_of_block hy1)).trans hy1
    obtain ⟨⟨k0, k1, k2, k3⟩, _⟩ := cells4 hx0
    obtain ⟨⟨k4, k5, k6, k7⟩, _⟩ := cells4 hx1
    clear hb7 HB6 b6 hy0 hy1
    go_wp2_with fail
    refine (HEN1.out w6 b06).mono ?_
    rintro e w7 ⟨rfl, b7⟩
    have b07 := below_trans' b06 b7
    have hy0 := (b7.block g (lt_of_block hx0)).trans hx0
    have hy1 := (b7.block (g + 1) (lt_of_block hx1)).trans hx1
    clear k0 k1 k2 k3 k4 k5 k6 k7 hx0 hx1 b06 b7
    obtain ⟨⟨k0, k1, k2, k3⟩, _⟩ := cells4 hy0
    obtain ⟨⟨k4, k5, k6, k7⟩, _⟩ := cells4 hy1
    clear hy0 hy1
    go_upto_region 8 with fail
    go_cut [80] (fun x wz => x = .bool false ∧ Below w.heap.size w wz)
    case first =>
      by_cases h0 : frC a0 = 0
      · have hv0 := hv0.out
        rw [h0, ev_zero] at hv0
        subst hv0
        by_cases h1 : frC a1 = 0
        · have hv1 := hv1.out
          rw [h1, ev_zero] at hv1
          subst hv1
          by_cases hab : a0 = a1
          · subst hab
            have EQ := fr_same a0
            go_wp2_with fail
            go_meet
            exact ⟨rfl, b07⟩
          · have EQ := fr_other hab
            have hne : ¬ encL a0 = encL a1 := by rw [encL_yes h0, encL_yes h1]; exact fun h => hab (frT_inj h0 h1 h)
            have hnb : ((bs (encL a0)).toList == (bs (encL a1)).toList) = false := by rw [bs_tl, bs_tl]; simp [hne]
            go_wp2_with fail
            go_meet
            exact ⟨rfl, b07⟩
        · have hv1 := hv1.out
          rw [ev_pos E h1] at hv1
          subst hv1
          go_wp2_with fail
          go_meet
          exact ⟨rfl, b07⟩
      · have hv0 := hv0.out
        rw [ev_pos E h0] at hv0
        subst hv0
        go_wp2_with fail
        go_meet
        exact ⟨rfl, b07⟩
    case rest =>
      obtain ⟨rfl, bc⟩ := hcut
      clear k0 k1 k2 k3 k4 k5 k6 k7 hv0 hv1 HEN0 HEN1 b07
      have DE := fun (w' : World) (b : Below w.heap.size w w') => fdec_any E a2 w' (by omega) (H1.out.below b) (H2.out.below b) (H4.out.below b) (H10.out.below b)
      obtain ⟨f, c, hfc⟩ : ∃ f c, decF a2.data.toList = (f, c) := ⟨_, _, rfl⟩
      have hbad := decF_err (L := a2.data.toList)
      have hgood := enc_dec (L := a2.data.toList) (f := f)
      rw [hfc] at DE hbad hgood
      simp only [PFr.val_is] at DE hbad
      have HDE := Lib.hid DE
      clear DE hfc
      go_wp2_with fail
      refine (HDE.out wc bc).mono ?_
      rintro e w8 ⟨rfl, b8⟩
      have b08 := below_trans' bc b8
      have b09 := b08.alloc b08.size (.cells #[.int .u8 f.k.toNat, .int .i64 f.e, .int .i64 f.q, .string (bs f.d)] 50)
      clear HDE b8 b08 bc
      by_cases hc : c = 0
      · subst hc
        obtain ⟨hf, ht⟩ := hgood rfl
        have EN := fun (w' : World) (b : Below w.heap.size w w') => fenc_any E f w' (H2.out.below b) (H4.out.below b)
        rw [encL_yes hf, hf, ht, bs_of, ev_zero] at EN
        simp only [PFr.val_is] at EN
        have HEN := Lib.hid EN
        clear EN hgood hbad
        rw [ev_zero]
        go_wp2_with fail
        refine (HEN.out _ b09).mono ?_
        rintro e w9 ⟨rfl, b9⟩
        have bz := below_trans' b09 b9
        go_wp2_with fail
        go_ret
        exact ⟨rfl, bz⟩
      · have hz := hbad hc
        subst hz
        have EQ := fr_zero
        rw [ev_pos E hc, zfr_k, zfr_e, zfr_q, zfr_d]
        rw [zfr_k, zfr_e, zfr_q, zfr_d] at b09
        go_wp2_with fail
        go_ret
        exact ⟨rfl, b09⟩
  · have h3 : (100 : Int) < a0.d.length ∨ ¬ (100 : Int) < a0.d.length ∧ ((100 : Int) < a1.d.length ∨ ¬ (100 : Int) < a1.d.length ∧ (300 : Int) < a2.size) := by omega
    clear hlen
    rcases h3 with h | ⟨h, h | ⟨h', h''⟩⟩
    all_goals
      go_wp2_with fail
      go_ret
      exact ⟨rfl, b03.out⟩
end Go.Proofs.YtkojhnmchbhbbaaDoor
