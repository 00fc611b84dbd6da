/- SignFinds: each block of a file is found in its signature; a signature is read as it was written, and is well. -/
import Derived.Test.YtmpikgkaoafclaaDoorSignLaws
import Derived.Test.YtmpikgkaoafclaaDoorSignSizes
namespace Go.Proofs.YtmpikgkaoafclaaDoor
open Go.RowKit

theorem extract_blk (s : ByteArray) (size k : Nat) (hs : 0 < size) (h : k < cntOf size s.data.toList.length) :
    (s.extract (offN size s.data.toList.length k) (offN size s.data.toList.length (k + 1))).data.toList = (s.data.toList.drop (k * size)).take size := by
  have h1 := cnt_lt hs h
  have h2 := offN_lt (len := s.data.toList.length) hs h
  have h3 : (k + 1) * size = k * size + size := by rw [Nat.add_mul]; omega
  rw [h2]
  simp only [ByteArray.data_extract, Array.toList_extract, List.extract_eq_take_drop]
  unfold offN
  rw [h3]
  split
  · congr 1; omega
  · rename_i hx
    rw [List.take_of_length_le (by simp), List.take_of_length_le (by simp; simp at hx; omega)]

set_option maxRecDepth 100000 in
set_option maxHeartbeats 3200000 in
theorem signFinds_walk (E : Nat → Addr) (a0 : ByteArray) (a1 : Int) (w : World) (_ : a0.size ≤ maxLen) (_ : (Lit.int .i64 a1).wf = true) (hE : ∀ c ∈ [1, 2, 8], Has E w c ∧ Sent w (E c)) (_ : ∀ c ∈ [1, 2, 8], ∀ c' ∈ [1, 2, 8], c ≠ c' → E c ≠ E c') :
    Calls Tryd.prog 8 #[.string a0, .int .i64 a1] w fun e w' => e = .returned (.bool true) ∧ Below w.heap.size w w' := by
  have HT := Lib.hid (hE 1 (by simp)).1
  have HB := Lib.hid (hE 2 (by simp)).1
  have HF := Lib.hid (hE 8 (by simp)).1
  clear hE
  by_cases hs : a0.size ≤ 600
  · have hsI : ¬ (600 : Int) < a0.size := by omega
    by_cases hz : 1 ≤ a1 ∧ a1 ≤ 64
    · obtain ⟨z, rfl⟩ : ∃ z : Nat, a1 = z := ⟨a1.toNat, by omega⟩
      obtain ⟨z1, z2⟩ := hz
      have z1 : 1 ≤ z := by omega
      have z2 : z ≤ 64 := by omega
      have hLl : a0.data.toList.length = a0.size := by simp
      have OF := Lib.hid (fun w => of_yes a0 z w (by omega) z1 z2)
      have hck := blks_chk z a0.data.toList z1 z2 (by omega)
      have hSS := blks_S z a0.data.toList
      have hrd := read_text (blks z a0.data.toList) z (by rw [hck]) hSS
      have hcl := cnt_le z a0.size (by omega)
      have hlen : (blks z a0.data.toList).length = cntOf z a0.size := by rw [blks_len, hLl]
      have hsl : (sText (blks z a0.data.toList) z).length ≤ 100000 := by
        rw [sText_is]
        have := bText_len (blks z a0.data.toList)
        have := num_len (z : Int).toNat
        have := num_len (blks z a0.data.toList).length
        simp only [List.length_append]; omega
      have hget : ∀ k (h : k < (blks z a0.data.toList).length), (blks z a0.data.toList)[k] = blk (a0.extract (offN z a0.size k) (offN z a0.size (k + 1))).data.toList ∧
          ((blks z a0.data.toList)[k]).N = ((offN z a0.size (k + 1) - offN z a0.size k : Nat) : Int) ∧ offN z a0.size k ≤ offN z a0.size (k + 1) ∧ offN z a0.size (k + 1) ≤ a0.size := by
        intro k h
        have hc : k < cntOf z a0.data.toList.length := by rw [hLl]; omega
        obtain ⟨q1, q2, q3, q4, q5, q6⟩ := blkN z a0.data.toList k (by omega) hc
        have hx := extract_blk a0 z k (by omega) hc
        have hg := blks_get z a0.data.toList k h
        rw [hLl] at hx q1 q4 q5
        exact ⟨by rw [hg, hx], by rw [hg]; exact q1, q4, q5⟩
      have hend := offN_end (size := z) (len := a0.size) (by omega)
      generalize blks z a0.data.toList = l at *
      have hl600 : l.length ≤ 600 := by omega
      have HG := Lib.hid hget
      have HCK := Lib.hid hck
      have HS := Lib.hid hSS
      have HRD := Lib.hid hrd
      have HLEN := Lib.hid hlen
      have HEND := Lib.hid hend
      clear hget hck hSS hrd hlen hend
      go_enter Tryd.func8, Tryd.ntmps8
      go_wp2_with (go_at_call 21; refine (signed_ok w).mono ?_; rintro e w0 ⟨rfl, b0⟩)
      refine (OF.out _).mono ?_
      rintro e w1 ⟨v, rfl, hown, b1⟩
      have b01 := below_trans' b0 b1
      clear b0 b1
      obtain ⟨A, cap, hv⟩ := owns_slice hown
      rw [hv] at hown ⊢
      have HSL := Lib.hid (SliceIs.ownedK hown)
      clear hown hv
      go_wp2_with fail
      refine (check_any E _ _ _ l z w1 HSL.out (HB.out.below b01) (HF.out.below b01)).mono ?_
      rintro e w2 ⟨v2, rfl, fe, b2⟩
      rw [HCK.out] at fe
      rw [fe.zero]
      have HSL2 := Lib.hid (HSL.out.below b2)
      have b02 := below_trans' b01 b2
      clear fe b2 b01 HSL
      go_wp2_with fail
      go_loopw [8, 9, 10, 11] (fun at' i _ _ wr => ∃ k : Nat, i = .int .i64 k ∧ k ≤ l.length ∧ at' = .int .i64 (offN z a0.size k) ∧ SliceIs wr (.slice A l.length cap) 3 (bcells l) ∧ Below w.heap.size w wr) (fun _ i _ _ _ => l.length - (intOf i).toNat)
      case atStart => exact ⟨0, rfl, by omega, by simp [offN], HSL2.out, b02⟩
      case round =>
        clear b02
        obtain ⟨k, rfl, hk, rfl, hsl2, bel⟩ := hrel
        have HSLR := Lib.hid hsl2
        clear hsl2
        by_cases hlt : k < l.length
        · have hltI : (k : Int) < l.length := by omega
          obtain ⟨s0', n0', c0', e1, _, _, _, g1⟩ := HSLR.out.get
          cases e1
          obtain ⟨g2, _, _⟩ := bcells_get l k hlt
          obtain ⟨ad, rfl, d0⟩ := g1 _ _ g2
          clear g1 g2
          have KK := Lib.hid (show k + 1 ≤ l.length by omega)
          have x1 : (0 : Int) ≤ k := by omega
          have x2 : (k : Int).toNat = k := by omega
          obtain ⟨q1, q2, q3, q4⟩ := HG.out k hlt
          have FL := Lib.hid (findI_le l _ k hlt rfl)
          rw [q1] at FL
          rw [q2] at d0
          generalize hoff : offN z a0.size k = o at *
          generalize hoff2 : offN z a0.size (k + 1) = o2 at *
          have HO2 := Lib.hid hoff2
          clear hoff hoff2 q1 q2
          have q5 : (o : Int) + ((o2 - o : Nat) : Int) = o2 := by omega
          have FI := Lib.hid (fun (w : World) h => find_any (some ad) l.length cap l (a0.extract o o2) w (by simp; omega) h)
          generalize findI l (blk (a0.extract o o2).data.toList) = fi at FI FL
          obtain ⟨f1, f2⟩ := FL.out
          have f1' : ¬ fi < 0 := by omega
          have f2' : ¬ (k : Int) < fi := by omega
          have D0 := Lib.hid d0
          go_wp2_with fail
          refine (FI.out _ HSLR.out).mono ?_
          rintro e v3 ⟨rfl, b3⟩
          have d1 := cell_kept D0.out b3
          have HSLN := Lib.hid (HSLR.out.below b3)
          have bel3 := below_trans' bel b3
          clear bel b3 d0
          go_wp2_with fail
          go_roundw
          case rel => exact ⟨k + 1, by go_num, KK.out, by rw [HO2.out], HSLN.out, bel3⟩
          case measure => simp [intOf]; omega
        · have hltI : ¬ (k : Int) < l.length := by omega
          have hkl : k = cntOf z a0.size := by have := HLEN.out; omega
          have ho : offN z a0.size k = a0.size := by rw [hkl, HEND.out]
          rw [ho]
          clear hkl ho
          have TX := Lib.hid (stext_yes E _ _ _ l z wr HSLR.out HS.out (HB.out.below bel) (HF.out.below bel) (by rw [HCK.out]))
          go_wp2_with fail
          refine TX.out.mono ?_
          rintro e w5 ⟨rfl, b5⟩
          have bel5 := below_trans' bel b5
          have HSL5 := Lib.hid (HSLR.out.below b5)
          clear bel b5
          have RD := sread_any E (bs (sText l z)) w5 (by rw [bs_size]; omega) (HT.out.below bel5) (HB.out.below bel5) (HF.out.below bel5)
          rw [bs_list, HRD.out] at RD
          simp only [] at RD
          rw [ev_zero] at RD
          have HRDD := Lib.hid RD
          clear RD
          go_wp2_with fail
          refine HRDD.out.mono ?_
          rintro e w6 ⟨v6, rfl, hown6, b6⟩
          have bel6 := below_trans' bel5 b6
          have HSL6 := Lib.hid (HSL5.out.below b6)
          obtain ⟨A6, cap6, hv6⟩ := owns_slice hown6
          rw [hv6] at hown6 ⊢
          have SB := sameBlocks_any A6 l.length cap6 A l.length cap l l w6 (SliceIs.ownedK hown6) HSL6.out
          rw [sameB_yes rfl] at SB
          have HSB := Lib.hid SB
          clear SB hown6 hv6 b6 bel5
          go_wp2_with (go_at_call 37; refine HSB.out.mono ?_; rintro e w7 ⟨rfl, b7⟩)
          go_ret
          exact ⟨rfl, below_trans' bel6 (b7.below _)⟩
    · have HZ := Lib.hid hz
      clear hz
      go_enter Tryd.func8, Tryd.ntmps8
      go_wp2_with (go_at_call 21; refine (signed_ok w).mono ?_; rintro e w0 ⟨rfl, b0⟩)
      have ON := of_no E a0 a1 w0 (fun h => HZ.out h.2) (HB.out.below b0)
      rw [ev_pos E (by decide)] at ON
      refine ON.mono ?_
      rintro e w1 ⟨rfl, b1⟩
      clear ON
      go_wp2_with fail
      go_ret
      exact ⟨rfl, below_trans' b0 (b1.below _)⟩
  · have hsI : (600 : Int) < a0.size := by omega
    go_enter Tryd.func8, Tryd.ntmps8
    go_wp2_with (go_at_call 21; refine (signed_ok w).mono ?_; rintro e w0 ⟨rfl, b0⟩)
    go_ret
    exact ⟨rfl, b0⟩
end Go.Proofs.YtmpikgkaoafclaaDoor
