/- FrameBits: a frame is read as it was written; with one bit turned it is none. -/
import Derived.Test.YtkojhnmchbhbbaaDoorFramed
import Derived.Test.YtkojhnmchbhbbaaDoorFrameFlip
import Derived.Test.YtkojhnmchbhbbaaDoorConvB
import Derived.Test.YtkojhnmchbhbbaaDoorCodedYes
namespace Go.Proofs.YtkojhnmchbhbbaaDoor
open Go.RowKit
set_option linter.unusedVariables false
attribute [local irreducible] frB lowL rdF decF frT frC

set_option maxRecDepth 100000 in
set_option maxHeartbeats 6400000 in
theorem frameBits_walk (E : Nat → Addr) (a0 : PFr) (a1 : Int) (w : World) (_ : a0.ok) (_ : (Lit.int .i64 a1).wf = true) (hh : Hand w) (h1 : ∀ c ∈ [1, 2, 3, 4, 5, 6, 7, 8, 9, 10, 11, 12], Has E w c ∧ Sent w (E c)) (h2 : ∀ c ∈ [1, 2, 3, 4, 5, 6, 7, 8, 9, 10, 11, 12], ∀ c' ∈ [1, 2, 3, 4, 5, 6, 7, 8, 9, 10, 11, 12], c ≠ c' → E c ≠ E c') :
    Calls Tryd.prog 8 #[a0.val, .int .i64 a1] w fun e w' => e = .returned (.bool true) ∧ Below w.heap.size w w' := by
  have hE := Errs.of hh h1 h2
  have HE := Lib.hid hE
  have H1 := Lib.hid (hE.has 1 (by omega) (by omega))
  have H2 := Lib.hid (hE.has 2 (by omega) (by omega))
  have H4 := Lib.hid (hE.has 4 (by omega) (by omega))
  have H10 := Lib.hid (hE.has 10 (by omega) (by omega))
  clear h1 h2 hh hE
  have FO := Lib.hid (fun (w' : World) (b : Below w.heap.size w w') => framed_ok E w' (H1.out.below b) (H2.out.below b) (H4.out.below b) (H10.out.below b))
  rw [PFr.val_is]
  have HA := Lib.hid (below_alloc' w (.cells #[.int .u8 a0.k.toNat, .int .i64 a0.e, .int .i64 a0.q, .string (bs a0.d)] 49))
  have hz0 := heap_alloc_new w (.cells #[.int .u8 a0.k.toNat, .int .i64 a0.e, .int .i64 a0.q, .string (bs a0.d)] 49)
  have FC := Lib.hid (fun (w' : World) (b : Below (w.alloc (.cells #[.int .u8 a0.k.toNat, .int .i64 a0.e, .int .i64 a0.q, .string (bs a0.d)] 49)).heap.size (w.alloc (.cells #[.int .u8 a0.k.toNat, .int .i64 a0.e, .int .i64 a0.q, .string (bs a0.d)] 49)) w') => (cells4 ((b.block _ (lt_of_block hz0)).trans hz0)).1)
  clear hz0
  go_enter Tryd.func8, Tryd.ntmps8
  go_wp2_with fail
  refine (FO.out _ HA.out).mono ?_
  rintro e w3 ⟨rfl, b3⟩
  have b03 := Lib.hid (below_trans' HA.out b3)
  obtain ⟨c0, c1, c2, c3⟩ := FC.out _ b3
  clear FC HA FO b3
  by_cases hlen : a0.d.length ≤ 200 ∧ 0 ≤ a1
  · obtain ⟨l0, l1⟩ := hlen
    have l0I : ¬ (200 : Int) < a0.d.length := by omega
    have l1I : ¬ a1 < 0 := by omega
    obtain ⟨m, rfl⟩ := Int.eq_ofNat_of_zero_le l1
    clear l1
    go_wp2_with fail
    have HB5 := Lib.hid (b03.out.alloc b03.out.size (.cells #[.int .u8 a0.k.toNat, .int .i64 a0.e, .int .i64 a0.q, .string (bs a0.d)] 50))
    have hy0 := heap_alloc_new w3 (.cells #[.int .u8 a0.k.toNat, .int .i64 a0.e, .int .i64 a0.q, .string (bs a0.d)] 50)
    clear c0 c1 c2 c3 b03
    have EN0 := fun (w' : World) (b : Below w.heap.size w w') => fenc_any E a0 w' (H2.out.below b) (H4.out.below b)
    simp only [PFr.val_is] at EN0
    by_cases hf : frC a0 = 0
    · rw [hf, ev_zero, encL_yes hf] at EN0
      have DE := fun (w' : World) (b : Below w.heap.size w w') => fdec_any E (bs (frT a0)) w' (by have := frT_len l0; rw [bs_size]; omega) (H1.out.below b) (H2.out.below b) (H4.out.below b) (H10.out.below b)
      simp only [bs_list, dec_enc a0 hf, PFr.val_is, ev_zero] at DE
      have hlen := frT_len l0
      have DF := Lib.hid (fun (p : Nat) (hp : p < (frT a0).length) (x : UInt8) hx => dec_flip a0 p x hp hx)
      generalize frT a0 = L at EN0 DE hlen DF
      have HEN0 := Lib.hid EN0
      have HDE := Lib.hid DE
      clear EN0 DE hf
      generalize w3.alloc (.cells #[.int .u8 a0.k.toNat, .int .i64 a0.e, .int .i64 a0.q, .string (bs a0.d)] 50) = w5 at *
      generalize w3.heap.size = g at *
      refine (HEN0.out w5 HB5.out).mono ?_
      rintro e w6 ⟨rfl, b6⟩
      have b06 := below_trans' HB5.out b6
      have hx0 := (b6.block g (lt_of_block hy0)).trans hy0
      clear HB5 b6 hy0 HEN0
      go_wp2_with fail
      refine (HDE.out w6 b06).mono ?_
      rintro e w7 ⟨rfl, b7⟩
      have b07 := below_trans' b06 b7
      have hy0 := (b7.block g (lt_of_block hx0)).trans hx0
      have b08 := b07.alloc b07.size (.cells #[.int .u8 a0.k.toNat, .int .i64 a0.e, .int .i64 a0.q, .string (bs a0.d)] 50)
      have hy0 := ((below_alloc' w7 (.cells #[.int .u8 a0.k.toNat, .int .i64 a0.e, .int .i64 a0.q, .string (bs a0.d)] 50)).block g (lt_of_block hy0)).trans hy0
      have hy1 := heap_alloc_new w7 (.cells #[.int .u8 a0.k.toNat, .int .i64 a0.e, .int .i64 a0.q, .string (bs a0.d)] 50)
      obtain ⟨⟨k0, k1, k2, k3⟩, _⟩ := cells4 hy0
      obtain ⟨⟨k4, k5, k6, k7⟩, _⟩ := cells4 hy1
      have EQ := fr_same a0
      have b07s := b07.size
      clear hx0 b06 b7 b07
      go_upto_region 9 with fail
      by_cases hm : m < 8 * L.length
      · have hmI : ¬ (8 * (L.length : Int)) ≤ m := by omega
        obtain ⟨p, hp⟩ : ∃ p, p = m / 8 := ⟨_, rfl⟩
        obtain ⟨q, hq⟩ : ∃ q, q = m % 8 := ⟨_, rfl⟩
        have hpl : p < L.length := by omega
        have hps : p < (bs L).size := by rw [bs_size]; exact hpl
        have hq8 : q < 8 := by omega
        have e1 : (m : Int) / 8 = (p : Int) := by omega
        have e2 : (m : Int) % 8 = (q : Int) := by omega
        clear hp hq hm
        have hb1 := lt_of_block hy1
        have hbg1 := b07s
        generalize w7.alloc (.cells #[.int .u8 a0.k.toNat, .int .i64 a0.e, .int .i64 a0.q, .string (bs a0.d)] 50) = w8 at *
        generalize w7.heap.size = g1 at *
        obtain ⟨cap, o, hcv, hcap, hcell, hfr⟩ := convB_text (P := Tryd.prog) w8 9 78 5 (bs L) Tryd.underlying9 Tryd.underlying78 Tryd.underlying5
        have hc := hcell p hps
        have hfz := hfr p hps
        obtain ⟨x, hx⟩ : ∃ x : UInt8, x = UInt8.ofNat (2 ^ q) := ⟨_, rfl⟩
        have hq256 : 2 ^ q < 256 := by
          have := Nat.pow_lt_pow_right (show 1 < 2 by decide) hq8
          simpa using this
        have hxn : x.toNat = 2 ^ q := by rw [hx]; simp; omega
        have hxpos : 0 < 2 ^ q := Nat.two_pow_pos q
        have hpw : (2 : Int) ^ q % 256 = (x.toNat : Int) := by
          have h2 : ((2 : Int) ^ q) = ((2 ^ q : Nat) : Int) := by simp
          rw [h2, hxn]
          generalize (2 ^ q : Nat) = z at *
          omega
        obtain ⟨y, hy⟩ : ∃ y : UInt8, y = (bs L)[p] ^^^ x := ⟨_, rfl⟩
        have hxor : bits .xor .u8 ((bs L)[p].toNat : Int) (x.toNat : Int) = (y.toNat : Int) := by
          rw [u8_xor_nat _ _ (bs L)[p].toNat_lt x.toNat_lt, hy, UInt8.toNat_xor]
        have hback := convB_back (P := Tryd.prog) (w8.alloc o) 78 9 5 w8.heap.size cap p (bs L) y Tryd.underlying78 Tryd.underlying5 Tryd.underlying9 hps hcell
        have hbp : (bs L)[p] = L[p] := by show (bs L).data[p] = _; simp [bs]
        have hdec : decF (L.set p y) = (zfr, 10) := by rw [hy, hbp]; exact DF.out p hpl x (by omega)
        have hly : (⟨((bs L).data.toList.set p y).toArray⟩ : ByteArray) = bs (L.set p y) := by rw [bs_list]; unfold bs; rfl
        rw [hly, bs_size] at hback
        have DE := fun (w' : World) (b : Below w.heap.size w w') => fdec_any E (bs (L.set p y)) w' (by rw [bs_size, List.length_set]; omega) (H1.out.below b) (H2.out.below b) (H4.out.below b) (H10.out.below b)
        simp only [bs_list, hdec, PFr.val_is, zfr_k, zfr_e, zfr_q, zfr_d] at DE
        have HDE := Lib.hid DE
        have b8z := (((Below.refl w8.heap.size w8).alloc (Nat.le_refl _) o).setCell (p := ⟨w8.heap.size, p, none⟩) (Nat.le_refl _) (.int .u8 y.toNat)).drew
        have b0z := Lib.hid (below_trans' b08 b8z)
        have hyz := (b8z.block g1 hb1).trans hy1
        have b08 := Lib.hid b08
        have EQZ := fr_zero
        clear hbp hcell hfr hxn hq256 hxpos hx hy hdec hly DE DF b8z hy0 hy1
        go_wp2_with fail
        refine (HDE.out _ b0z.out).mono ?_
        rintro e w9 ⟨rfl, b9⟩
        have b09 := below_trans' b0z.out b9
        have hz9 := (b9.block g1 (lt_of_block hyz)).trans hyz
        have hbg : w.heap.size ≤ g1 := hbg1
        obtain ⟨⟨q0, q1, q2, q3⟩, fz⟩ := cells4 hz9
        have f0 := fz 0
        have f1 := fz 1
        have f2 := fz 2
        have f3 := fz 3
        have hp := put4 hz9 (.int .u8 0) (.int .i64 0) (.int .i64 0) (.string ⟨#[]⟩)
        have bb := below_put4 b09 hbg (.int .u8 0) (.int .i64 0) (.int .i64 0) (.string ⟨#[]⟩)
        have CE := Lib.hid (coded_ev E 10 _ (HE.out.below bb) (by omega))
        have bbH := Lib.hid bb
        have hpH := Lib.hid hp
        clear fz hz9 b9 b09 HDE hback hyz b0z b08 bb hp k0 k1 k2 k3 k4 k5 k6 k7
        go_wp2_with fail
        refine CE.out.mono ?_
        rintro e wa ⟨rfl, ba⟩
        have bz := below_trans' bbH.out ba
        have hpz := (ba.block g1 (lt_of_block hpH.out)).trans hpH.out
        clear f0 f1 f2 f3 q0 q1 q2 q3
        obtain ⟨⟨k0, k1, k2, k3⟩, _⟩ := cells4 hpz
        go_wp2_with fail
        go_ret
        exact ⟨rfl, bz⟩
      · have hmI : (8 * (L.length : Int)) ≤ m := by omega
        clear hm
        go_wp2_with fail
        go_ret
        exact ⟨rfl, b08⟩
    · rw [ev_pos E hf, encL_no hf] at EN0
      have HEN0 := Lib.hid EN0
      clear EN0
      refine (HEN0.out _ HB5.out).mono ?_
      rintro e w6 ⟨rfl, b6⟩
      have b06 := below_trans' HB5.out b6
      rw [bs_nil]
      go_wp2_with fail
      go_ret
      exact ⟨rfl, b06⟩
  · have h3 : (200 : Int) < a0.d.length ∨ ¬ (200 : Int) < a0.d.length ∧ a1 < 0 := by omega
    clear hlen
    rcases h3 with h | ⟨h, h'⟩
    all_goals
      go_wp2_with fail
      go_ret
      exact ⟨rfl, b03.out⟩
end Go.Proofs.YtkojhnmchbhbbaaDoor
