/- Contract of the document's ReadFrame. -/
import Derived.Test.YtkojhnmchbhbbaaDoorRefFrame
import Derived.Test.YtkojhnmchbhbbaaDoorFrDec
import Derived.Test.YtkojhnmchbhbbaaDoorFrEq
namespace Go.Proofs.YtkojhnmchbhbbaaDoor
open Go.RowKit
set_option linter.unusedVariables false

theorem tAt_drop' {s : List UInt8} {p : Nat} (h : tC (s.drop p) = 0) : s.drop (tAt s.length p (s.drop p)) = tR (s.drop p) ∧ tAt s.length p (s.drop p) ≤ s.length ∧ p < tAt s.length p (s.drop p) := by
  by_cases g0 : gC (s.drop p) = 0
  · obtain ⟨e1, e2⟩ := gR_drop g0
    by_cases g1 : 20000 < gN (s.drop p)
    · have := (t_err2 g0 g1).1; omega
    · by_cases g2 : (gR (s.drop p)).length < gN (s.drop p)
      · have := (t_err3 g0 g1 g2).1; omega
      · have hr := (t_fine g0 g1 g2).2.2
        have hk : tAt s.length p (s.drop p) = s.length - (tR (s.drop p)).length := by unfold tAt; rw [if_pos h]
        have hl : (tR (s.drop p)).length = (gR (s.drop p)).length - gN (s.drop p) := by rw [hr, List.length_drop]
        rw [List.length_drop] at e1 e2
        rw [hk]
        refine ⟨?_, by omega, by omega⟩
        have e3 : s.drop (s.length - (gR (s.drop p)).length) = gR (s.drop p) := by
          conv => rhs; rw [e1]
          rw [List.drop_drop]
          congr 1; omega
        conv => rhs; rw [hr, ← e3]
        rw [List.drop_drop, hl]
        congr 1; omega
  · have := (t_err1 g0).2.2; exact absurd h this
theorem bs_get0 (l : List UInt8) (h : 0 < (bs l).size) (h' : 0 < l.length) : (bs l)[0]'h = l[0]'h' := by
  unfold bs
  rfl
theorem rd_c1 (k : UInt8) {l : List UInt8} (h : gC l ≠ 0) : ∃ f, rdF k l = (f, gC l) := by
  have hr := rdF_is k (rn_zero l).2.1 (rn_zero l).2.2 (rn_err (gR l) h).2.1 (rn_err (gR l) h).2.2 (rt_err (gR l) h).2.1 (rt_err (gR l) h).2.2
  rw [rEnd_err _ h] at hr
  exact ⟨_, hr⟩
theorem rd_c2 (k : UInt8) {l : List UInt8} (h1 : gC l = 0) (h : gC (gR l) ≠ 0) : ∃ f, rdF k l = (f, gC (gR l)) := by
  have hr := rdF_is k (rn_zero l).2.1 ((rn_zero l).2.2.trans h1) (rn_zero (gR l)).2.1 (rn_zero (gR l)).2.2 (rt_err (gR (gR l)) h).2.1 (rt_err (gR (gR l)) h).2.2
  rw [rEnd_err _ h] at hr
  exact ⟨_, hr⟩
theorem rd_c3 (k : UInt8) {l : List UInt8} (h1 : gC l = 0) (h2 : gC (gR l) = 0) (h : tC (gR (gR l)) ≠ 0) : ∃ f, rdF k l = (f, tC (gR (gR l))) := by
  have hr := rdF_is k (rn_zero l).2.1 ((rn_zero l).2.2.trans h1) (rn_zero (gR l)).2.1 ((rn_zero (gR l)).2.2.trans h2) (rt_zero (gR (gR l))).2.1 (rt_zero (gR (gR l))).2.2
  rw [rEnd_err _ h] at hr
  exact ⟨_, hr⟩
theorem rd_c4 (k : UInt8) {l : List UInt8} (h1 : gC l = 0) (h2 : gC (gR l) = 0) (h3 : tC (gR (gR l)) = 0) (h : tR (gR (gR l)) ≠ []) : ∃ f, rdF k l = (f, 1) := by
  have hr := rdF_is k (rn_zero l).2.1 ((rn_zero l).2.2.trans h1) (rn_zero (gR l)).2.1 ((rn_zero (gR l)).2.2.trans h2) (rt_zero (gR (gR l))).2.1 ((rt_zero (gR (gR l))).2.2.trans h3)
  rw [rEnd_some h] at hr
  exact ⟨_, hr⟩
theorem rd_fine (k : UInt8) {l : List UInt8} (h1 : gC l = 0) (h2 : gC (gR l) = 0) (h3 : tC (gR (gR l)) = 0) (h : tR (gR (gR l)) = []) : rdF k l = (⟨k, gN l, gN (gR l), tT (gR (gR l))⟩, 0) := by
  have hr := rdF_is k (rn_zero l).2.1 ((rn_zero l).2.2.trans h1) (rn_zero (gR l)).2.1 ((rn_zero (gR l)).2.2.trans h2) ((rt_zero (gR (gR l))).2.1.trans h) ((rt_zero (gR (gR l))).2.2.trans h3)
  rw [rEnd_nil, (rn_zero l).1, (rn_zero (gR l)).1, (rt_zero (gR (gR l))).1] at hr
  exact hr

set_option maxRecDepth 100000 in
set_option maxHeartbeats 12800000 in
theorem rreadframe_any (s : ByteArray) (w : World) (hs : s.size ≤ 100000) :
    Calls Tryd.prog 34 #[.string s] w fun e w' => e = .returned (.tuple #[(decF s.data.toList).1.val, .int .i64 (decF s.data.toList).2]) ∧ Below w.heap.size w w' := by
  have hsl : s.data.toList.length = s.size := by simp
  have EXT : ∀ i k e, e = i + k → s.extract i e = bs ((s.data.toList.drop i).take k) := fun i k e h => by
    apply eq_bs; subst h; simp
  have HZV := Lib.hid zfr_val
  have BW := Lib.hid (below_alloc' w (.cells #[.int .u8 0, .int .i64 0, .int .i64 0, .string ⟨#[]⟩] 49))
  have HZW := Lib.hid (show (w.alloc (.cells #[.int .u8 0, .int .i64 0, .int .i64 0, .string ⟨#[]⟩] 49)).heap[w.heap.size]? = some (.cells #[.int .u8 0, .int .i64 0, .int .i64 0, .string ⟨#[]⟩] 49 (0, 0)) from heap_alloc_new _ _)
  by_cases h4' : s.size < 4
  · have h4I : (s.size : Int) < 4 := by omega
    have HD := Lib.hid (decF_short (L := s.data.toList) (by rw [hsl]; exact h4'))
    clear EXT hsl
    go_enter Tryd.func34, Tryd.ntmps34
    go_wp2_with fail
    obtain ⟨⟨r0, r1, r2, r3⟩, _⟩ := cells4 HZW.out
    (try simp only [Exit.inBlock, Exit.then])
    refine bodyPost_ret (by simp [results, Tryd.results34, go_sem]; try rfl) rfl ?_
    exact ⟨by rw [HD.out, HZV.out]; rfl, BW.out⟩
  · have h4I : ¬ (s.size : Int) < 4 := by omega
    obtain ⟨m, hm⟩ : ∃ m, s.size = m + 4 := ⟨s.size - 4, by omega⟩
    have hmI : (s.size : Int) - 4 = m := by omega
    have hLm : s.data.toList.length - 4 = m := by rw [hsl]; omega
    have hx1 : s.extract 0 m = bs (s.data.toList.take m) := by rw [EXT 0 m m (by omega)]; simp
    have hx2 : s.extract m s.size = bs (s.data.toList.drop m) := by rw [EXT m 4 s.size (by omega), List.take_of_length_le (by rw [List.length_drop, hsl]; omega)]
    have SU := Lib.hid (fun w' => sumOf_any (bs (s.data.toList.take m)) w' (by rw [bs_size, List.length_take, hsl]; omega))
    rw [bs_list] at SU
    have LW := Lib.hid (fun w' => rlow_any (csum (s.data.toList.take m)) w' (csum_lt _))
    have D10 := Lib.hid (decF_sum (L := s.data.toList) (by rw [hsl]; exact h4'))
    have D4 := Lib.hid (decF_none (L := s.data.toList))
    rw [hLm] at D10 D4
    have y1 : (0 : Int) ≤ m := by omega
    have y2 : (m : Int) ≤ s.size := by omega
    have y3 : (m : Int).toNat = m := by omega
    have y4 : IntKind.i64.wrap (m : Int) = m := IntWalk.i64_in _ (by omega)
    have hlt' : (s.data.toList.take m).length = m := by rw [List.length_take, hsl]; omega
    have HMM := Lib.hid hm
    clear hm EXT
    by_cases hsum : lowL (csum (s.data.toList.take m)) = s.data.toList.drop m
    · have hcmp : ((bs (lowL (csum (s.data.toList.take m)))).toList == (bs (s.data.toList.drop m)).toList) = true := by rw [hsum]; simp
      by_cases hm0 : m = 0
      · have hmb : ((m : Int) == 0) = true := by rw [beq_iff_eq]; omega
        have hlb : (((s.data.toList.take m).length : Int) == 0) = true := by rw [beq_iff_eq]; omega
        have HD := Lib.hid (D4.out (by rw [hsl, HMM.out, hm0]) hsum)
        clear D4 D10 hsum hm0
        go_enter Tryd.func34, Tryd.ntmps34
        go_wp2_with fail
        go_region_with (first | (go_at_call 57; refine (SU.out _).mono ?_; rintro e' w7 ⟨rfl, rfl⟩) | (go_at_call 56; refine (LW.out _).mono ?_; rintro e' w8 ⟨rfl, b8⟩))
        all_goals
          have b8 := (show Below (w.alloc (.cells #[.int .u8 0, .int .i64 0, .int .i64 0, .string ⟨#[]⟩] 49)).heap.size (w.alloc (.cells #[.int .u8 0, .int .i64 0, .int .i64 0, .string ⟨#[]⟩] 49)) w8 from ⟨b8.os, b8.tape, b8.output, b8.size, b8.block⟩)
          have HZW := Lib.hid ((b8.block w.heap.size (lt_of_block HZW.out)).trans HZW.out)
          have BW := Lib.hid (below_trans' BW.out b8)
          clear b8
          obtain ⟨⟨q0, q1, q2, q3⟩, fz⟩ := cells4 HZW.out
          have f0 := fz 0
          have f1 := fz 1
          have f2 := fz 2
          have f3 := fz 3
          have hp := put4 HZW.out (.int .u8 0) (.int .i64 0) (.int .i64 0) (.string ⟨#[]⟩)
          have bb := below_put4 BW.out (Nat.le_refl w.heap.size) (.int .u8 0) (.int .i64 0) (.int .i64 0) (.string ⟨#[]⟩)
          clear fz
          go_wp2_with fail
          generalize ((((w8.setCell ⟨w.heap.size, 0, none⟩ (.int .u8 0)).setCell ⟨w.heap.size, 1, none⟩ (.int .i64 0)).setCell ⟨w.heap.size, 2, none⟩ (.int .i64 0)).setCell ⟨w.heap.size, 3, none⟩ (.string ⟨#[]⟩)) = w9' at hp bb ⊢
          obtain ⟨⟨r0, r1, r2, r3⟩, _⟩ := cells4 hp
          (try simp only [Exit.inBlock, Exit.then])
          refine bodyPost_ret (by simp [results, Tryd.results34, go_sem, r0, r1, r2, r3]; try rfl) rfl ?_
          exact ⟨by rw [HD.out, HZV.out]; try rfl, bb⟩
      · have hmb : ((m : Int) == 0) = false := by rw [beq_eq_false_iff_ne]; omega
        have hsp : 0 < s.size := by have := HMM.out; omega
        have hb : s.data.toList.take m = s[0] :: (s.data.toList.drop 1).take (m - 1) := by
          have h0 : s.data.toList = s[0] :: s.data.toList.drop 1 := by
            have := List.drop_eq_getElem_cons (l := s.data.toList) (i := 0) (by rw [hsl]; exact hsp)
            rw [List.drop_zero] at this
            exact this
          obtain ⟨m', rfl⟩ : ∃ m', m = m' + 1 := ⟨m - 1, by omega⟩
          conv => lhs; rw [h0]
          rw [List.take_succ_cons, Nat.add_sub_cancel]
        have hsum' : lowL (csum (s.data.toList.take (s.data.toList.length - 4))) = s.data.toList.drop (s.data.toList.length - 4) := by rw [hLm]; exact hsum
        have hb' : s.data.toList.take (s.data.toList.length - 4) = s[0] :: (s.data.toList.drop 1).take (m - 1) := by rw [hLm]; exact hb
        have hn4 : ¬ s.data.toList.length < 4 := by rw [hsl]; exact h4'
        have DE := Lib.hid (fun (f : PFr) (c : Nat) hr hc => decF_end (f := f) (c := c) hn4 hsum' hb' hr hc)
        have DB := Lib.hid (fun (f : PFr) (c : Nat) hr hc hf => decF_bad (f := f) (c := c) hn4 hsum' hb' hr hc hf)
        have DF := Lib.hid (fun (f : PFr) (c : Nat) hr hc hf => decF_fine (f := f) (c := c) hn4 hsum' hb' hr hc hf)
        have hk0 : ∃ h : 0 < (bs (s.data.toList.take m)).size, (bs (s.data.toList.take m))[0]'h = s[0]'hsp := ⟨by rw [bs_size, hlt']; omega, by rw [bs_get0 _ _ (by rw [hlt']; omega)]; simp only [hb]; rfl⟩
        have hdr : (s.data.toList.take m).drop 1 = (s.data.toList.drop 1).take (m - 1) := by rw [hb]; rfl
        have hbl : (bs (s.data.toList.take m)).size = m := by rw [bs_size, hlt']
        have NO := fun (p : Nat) (w' : World) (h : p ≤ m) => rnumof_any (bs (s.data.toList.take m)) p w' (by rw [hbl]; omega) (by rw [hbl]; exact h)
        have TO := fun (p : Nat) (w' : World) (h : p ≤ m) => rtextof_any (bs (s.data.toList.take m)) p w' (by rw [hbl]; omega) (by rw [hbl]; exact h)
        have ND := fun (p : Nat) h => nAt_drop (s := s.data.toList.take m) (at' := p) h
        have TD := fun (p : Nat) h => tAt_drop' (s := s.data.toList.take m) (p := p) h
        simp only [bs_list, hbl] at NO TO
        rw [hlt'] at ND TD
        generalize (s.data.toList.drop 1).take (m - 1) = l at hdr DE DB DF
        generalize hB : s.data.toList.take m = B at *
        generalize hk : s[0] = k at *
        clear hsum' hb' hn4 hb D4 D10 hB hk hsum
        obtain ⟨hk1, hk0⟩ := hk0
        have N1 := NO 1
        rw [hdr] at N1
        by_cases g1 : gC l = 0
        · rw [← hdr] at g1
          obtain ⟨j1, j2, j3⟩ := ND 1 g1
          rw [hdr] at g1 j1 j2 j3
          have hg1 : ¬ (0 : Int) < gC l := by omega
          have N2 := NO (nAt m 1 l)
          rw [j1] at N2
          by_cases g2 : gC (gR l) = 0
          · have hg2 : ¬ (0 : Int) < gC (gR l) := by omega
            rw [← j1] at g2
            obtain ⟨j4, j5, j6⟩ := ND _ g2
            rw [j1] at g2 j4 j5 j6
            have T3 := TO (nAt m (nAt m 1 l) (gR l))
            rw [j4] at T3
            by_cases g3 : tC (gR (gR l)) = 0
            · have hg3 : ¬ (0 : Int) < tC (gR (gR l)) := by omega
              rw [← j4] at g3
              obtain ⟨j7, j8, j9⟩ := TD _ g3
              rw [j4] at g3 j7 j8 j9
              by_cases ge : tAt m (nAt m (nAt m 1 l) (gR l)) (gR (gR l)) = m
              · have hgb : ((tAt m (nAt m (nAt m 1 l) (gR l)) (gR (gR l)) : Int) != (m : Int)) = false := by rw [bne_eq_false_iff_eq]; omega
                have hgl : ((tAt m (nAt m (nAt m 1 l) (gR l)) (gR (gR l)) : Int) != (B.length : Int)) = false := by rw [bne_eq_false_iff_eq]; omega
                have hnil : tR (gR (gR l)) = [] := by rw [← j7, ge]; exact List.drop_of_length_le (by omega)
                have HR := Lib.hid (rd_fine k g1 g2 g3 hnil)
                have FE := fun (w' : World) => rfrerr_any ⟨k, gN l, gN (gR l), tT (gR (gR l))⟩ w'
                simp only [PFr.val_is] at FE
                have HFE := Lib.hid FE
                generalize tAt m (nAt m (nAt m 1 l) (gR l)) (gR (gR l)) = p3 at *
                generalize nAt m (nAt m 1 l) (gR l) = p2 at *
                generalize nAt m 1 l = p1 at *
                have HN1 := Lib.hid N1
                have HN2 := Lib.hid (fun w' => N2 w' j2)
                have HT3 := Lib.hid (fun w' => T3 w' j5)
                clear N1 N2 T3 NO TO ND TD hdr
                go_enter Tryd.func34, Tryd.ntmps34
                go_wp2_with fail
                go_region_with (first | (go_at_call 57; refine (SU.out _).mono ?_; rintro e' w7 ⟨rfl, rfl⟩) | (go_at_call 56; refine (LW.out _).mono ?_; rintro e' w8 ⟨rfl, b8⟩))
                have b8 := (show Below (w.alloc (.cells #[.int .u8 0, .int .i64 0, .int .i64 0, .string ⟨#[]⟩] 49)).heap.size (w.alloc (.cells #[.int .u8 0, .int .i64 0, .int .i64 0, .string ⟨#[]⟩] 49)) w8 from ⟨b8.os, b8.tape, b8.output, b8.size, b8.block⟩)
                have HZW := Lib.hid ((b8.block w.heap.size (lt_of_block HZW.out)).trans HZW.out)
                have BW := Lib.hid (below_trans' BW.out b8)
                clear b8
                go_wp2_with fail
                refine (HN1.out _ (by omega)).mono ?_
                rintro e' w7 ⟨rfl, rfl⟩
                go_wp2_with fail
                refine (HN2.out _).mono ?_
                rintro e' w6 ⟨rfl, rfl⟩
                go_wp2_with fail
                refine (HT3.out _).mono ?_
                rintro e' w5 ⟨rfl, rfl⟩
                by_cases hf : frC ⟨k, gN l, gN (gR l), tT (gR (gR l))⟩ = 0
                · have HD := Lib.hid (DF.out _ _ HR.out rfl hf)
                  rw [hf] at HFE
                  clear hf
                  go_wp2_with fail
                  refine (HFE.out _).mono ?_
                  rintro e' w8f ⟨rfl, bf⟩
                  obtain ⟨⟨k0, k1, k2, k3⟩, _⟩ := cells4 ((bf.block w8.heap.size (by simp)).trans (heap_alloc_new w8 (.cells #[.int .u8 k.toNat, .int .i64 (gN l), .int .i64 (gN (gR l)), .string (bs (tT (gR (gR l))))] 49)))
                  have HZW := Lib.hid ((bf.block w.heap.size (by have := lt_of_block HZW.out; simp; omega)).trans (((below_alloc' w8 _).block w.heap.size (lt_of_block HZW.out)).trans HZW.out))
                  have BW := Lib.hid (below_trans' (BW.out.alloc BW.out.size _) bf)
                  obtain ⟨⟨q0, q1, q2, q3⟩, fz⟩ := cells4 HZW.out
                  have f0 := fz 0
                  have f1 := fz 1
                  have f2 := fz 2
                  have f3 := fz 3
                  have hp := put4 HZW.out (.int .u8 k.toNat) (.int .i64 (gN l)) (.int .i64 (gN (gR l))) (.string (bs (tT (gR (gR l)))))
                  have bb := below_put4 BW.out (Nat.le_refl w.heap.size) (.int .u8 k.toNat) (.int .i64 (gN l)) (.int .i64 (gN (gR l))) (.string (bs (tT (gR (gR l)))))
                  clear fz
                  go_wp2_with fail
                  generalize ((((w8f.setCell ⟨w.heap.size, 0, none⟩ (.int .u8 k.toNat)).setCell ⟨w.heap.size, 1, none⟩ (.int .i64 (gN l))).setCell ⟨w.heap.size, 2, none⟩ (.int .i64 (gN (gR l)))).setCell ⟨w.heap.size, 3, none⟩ (.string (bs (tT (gR (gR l)))))) = w9' at hp bb ⊢
                  obtain ⟨⟨r0, r1, r2, r3⟩, _⟩ := cells4 hp
                  (try simp only [Exit.inBlock, Exit.then])
                  refine bodyPost_ret (by simp [results, Tryd.results34, go_sem, r0, r1, r2, r3]; try rfl) rfl ?_
                  exact ⟨by rw [HD.out, PFr.val_is]; try rfl, bb⟩
                · have HD := Lib.hid (DB.out _ _ HR.out rfl hf)
                  have hfI : (0 : Int) < frC ⟨k, gN l, gN (gR l), tT (gR (gR l))⟩ := by omega
                  generalize frC ⟨k, gN l, gN (gR l), tT (gR (gR l))⟩ = fc at *
                  clear hf
                  go_wp2_with fail
                  refine (HFE.out _).mono ?_
                  rintro e' w8f ⟨rfl, bf⟩
                  obtain ⟨⟨k0, k1, k2, k3⟩, _⟩ := cells4 ((bf.block w8.heap.size (by simp)).trans (heap_alloc_new w8 (.cells #[.int .u8 k.toNat, .int .i64 (gN l), .int .i64 (gN (gR l)), .string (bs (tT (gR (gR l))))] 49)))
                  have HZW := Lib.hid ((bf.block w.heap.size (by have := lt_of_block HZW.out; simp; omega)).trans (((below_alloc' w8 _).block w.heap.size (lt_of_block HZW.out)).trans HZW.out))
                  have BW := Lib.hid (below_trans' (BW.out.alloc BW.out.size _) bf)
                  obtain ⟨⟨q0, q1, q2, q3⟩, fz⟩ := cells4 HZW.out
                  have f0 := fz 0
                  have f1 := fz 1
                  have f2 := fz 2
                  have f3 := fz 3
                  have hp := put4 HZW.out (.int .u8 0) (.int .i64 0) (.int .i64 0) (.string ⟨#[]⟩)
                  have bb := below_put4 BW.out (Nat.le_refl w.heap.size) (.int .u8 0) (.int .i64 0) (.int .i64 0) (.string ⟨#[]⟩)
                  clear fz
                  go_wp2_with fail
                  generalize ((((w8f.setCell ⟨w.heap.size, 0, none⟩ (.int .u8 0)).setCell ⟨w.heap.size, 1, none⟩ (.int .i64 0)).setCell ⟨w.heap.size, 2, none⟩ (.int .i64 0)).setCell ⟨w.heap.size, 3, none⟩ (.string ⟨#[]⟩)) = w9' at hp bb ⊢
                  obtain ⟨⟨r0, r1, r2, r3⟩, _⟩ := cells4 hp
                  (try simp only [Exit.inBlock, Exit.then])
                  refine bodyPost_ret (by simp [results, Tryd.results34, go_sem, r0, r1, r2, r3]; try rfl) rfl ?_
                  exact ⟨by rw [HD.out, HZV.out]; try rfl, bb⟩
              · have hgb : ((tAt m (nAt m (nAt m 1 l) (gR l)) (gR (gR l)) : Int) != (m : Int)) = true := by rw [bne_iff_ne]; omega
                have hgl : ((tAt m (nAt m (nAt m 1 l) (gR l)) (gR (gR l)) : Int) != (B.length : Int)) = true := by rw [bne_iff_ne]; omega
                have hnil : tR (gR (gR l)) ≠ [] := by
                  rw [← j7]; intro e; have := congrArg List.length e; rw [List.length_drop, hlt'] at this; simp at this; omega
                obtain ⟨f, hr⟩ := rd_c4 k g1 g2 g3 hnil
                have HD := Lib.hid (DE.out _ _ hr (by decide))
                clear hr hnil
                generalize tAt m (nAt m (nAt m 1 l) (gR l)) (gR (gR l)) = p3 at *
                generalize nAt m (nAt m 1 l) (gR l) = p2 at *
                generalize nAt m 1 l = p1 at *
                have HN1 := Lib.hid N1
                have HN2 := Lib.hid (fun w' => N2 w' j2)
                have HT3 := Lib.hid (fun w' => T3 w' j5)
                clear N1 N2 T3 NO TO ND TD hdr
                go_enter Tryd.func34, Tryd.ntmps34
                go_wp2_with fail
                go_region_with (first | (go_at_call 57; refine (SU.out _).mono ?_; rintro e' w7 ⟨rfl, rfl⟩) | (go_at_call 56; refine (LW.out _).mono ?_; rintro e' w8 ⟨rfl, b8⟩))
                have b8 := (show Below (w.alloc (.cells #[.int .u8 0, .int .i64 0, .int .i64 0, .string ⟨#[]⟩] 49)).heap.size (w.alloc (.cells #[.int .u8 0, .int .i64 0, .int .i64 0, .string ⟨#[]⟩] 49)) w8 from ⟨b8.os, b8.tape, b8.output, b8.size, b8.block⟩)
                have HZW := Lib.hid ((b8.block w.heap.size (lt_of_block HZW.out)).trans HZW.out)
                have BW := Lib.hid (below_trans' BW.out b8)
                clear b8
                go_wp2_with fail
                refine (HN1.out _ (by omega)).mono ?_
                rintro e' w7 ⟨rfl, rfl⟩
                go_wp2_with fail
                refine (HN2.out _).mono ?_
                rintro e' w6 ⟨rfl, rfl⟩
                go_wp2_with fail
                refine (HT3.out _).mono ?_
                rintro e' w5 ⟨rfl, rfl⟩
                obtain ⟨⟨q0, q1, q2, q3⟩, fz⟩ := cells4 HZW.out
                have f0 := fz 0
                have f1 := fz 1
                have f2 := fz 2
                have f3 := fz 3
                have hp := put4 HZW.out (.int .u8 0) (.int .i64 0) (.int .i64 0) (.string ⟨#[]⟩)
                have bb := below_put4 BW.out (Nat.le_refl w.heap.size) (.int .u8 0) (.int .i64 0) (.int .i64 0) (.string ⟨#[]⟩)
                clear fz
                go_wp2_with fail
                generalize ((((w8.setCell ⟨w.heap.size, 0, none⟩ (.int .u8 0)).setCell ⟨w.heap.size, 1, none⟩ (.int .i64 0)).setCell ⟨w.heap.size, 2, none⟩ (.int .i64 0)).setCell ⟨w.heap.size, 3, none⟩ (.string ⟨#[]⟩)) = w9' at hp bb ⊢
                obtain ⟨⟨r0, r1, r2, r3⟩, _⟩ := cells4 hp
                (try simp only [Exit.inBlock, Exit.then])
                refine bodyPost_ret (by simp [results, Tryd.results34, go_sem, r0, r1, r2, r3]; try rfl) rfl ?_
                exact ⟨by rw [HD.out, HZV.out]; try rfl, bb⟩
            · have hg3 : (0 : Int) < tC (gR (gR l)) := by omega
              obtain ⟨f, hr⟩ := rd_c3 k g1 g2 g3
              have HD := Lib.hid (DE.out _ _ hr g3)
              clear hr
              generalize nAt m (nAt m 1 l) (gR l) = p2 at *
              generalize nAt m 1 l = p1 at *
              have HN1 := Lib.hid N1
              have HN2 := Lib.hid (fun w' => N2 w' j2)
              have HT3 := Lib.hid (fun w' => T3 w' j5)
              clear N1 N2 T3 NO TO ND TD hdr
              go_enter Tryd.func34, Tryd.ntmps34
              go_wp2_with fail
              go_region_with (first | (go_at_call 57; refine (SU.out _).mono ?_; rintro e' w7 ⟨rfl, rfl⟩) | (go_at_call 56; refine (LW.out _).mono ?_; rintro e' w8 ⟨rfl, b8⟩))
              have b8 := (show Below (w.alloc (.cells #[.int .u8 0, .int .i64 0, .int .i64 0, .string ⟨#[]⟩] 49)).heap.size (w.alloc (.cells #[.int .u8 0, .int .i64 0, .int .i64 0, .string ⟨#[]⟩] 49)) w8 from ⟨b8.os, b8.tape, b8.output, b8.size, b8.block⟩)
              have HZW := Lib.hid ((b8.block w.heap.size (lt_of_block HZW.out)).trans HZW.out)
              have BW := Lib.hid (below_trans' BW.out b8)
              clear b8
              go_wp2_with fail
              refine (HN1.out _ (by omega)).mono ?_
              rintro e' w7 ⟨rfl, rfl⟩
              go_wp2_with fail
              refine (HN2.out _).mono ?_
              rintro e' w6 ⟨rfl, rfl⟩
              go_wp2_with fail
              refine (HT3.out _).mono ?_
              rintro e' w5 ⟨rfl, rfl⟩
              obtain ⟨⟨q0, q1, q2, q3⟩, fz⟩ := cells4 HZW.out
              have f0 := fz 0
              have f1 := fz 1
              have f2 := fz 2
              have f3 := fz 3
              have hp := put4 HZW.out (.int .u8 0) (.int .i64 0) (.int .i64 0) (.string ⟨#[]⟩)
              have bb := below_put4 BW.out (Nat.le_refl w.heap.size) (.int .u8 0) (.int .i64 0) (.int .i64 0) (.string ⟨#[]⟩)
              clear fz
              go_wp2_with fail
              generalize ((((w8.setCell ⟨w.heap.size, 0, none⟩ (.int .u8 0)).setCell ⟨w.heap.size, 1, none⟩ (.int .i64 0)).setCell ⟨w.heap.size, 2, none⟩ (.int .i64 0)).setCell ⟨w.heap.size, 3, none⟩ (.string ⟨#[]⟩)) = w9' at hp bb ⊢
              obtain ⟨⟨r0, r1, r2, r3⟩, _⟩ := cells4 hp
              (try simp only [Exit.inBlock, Exit.then])
              refine bodyPost_ret (by simp [results, Tryd.results34, go_sem, r0, r1, r2, r3]; try rfl) rfl ?_
              exact ⟨by rw [HD.out, HZV.out]; try rfl, bb⟩
          · have hg2 : (0 : Int) < gC (gR l) := by omega
            obtain ⟨f, hr⟩ := rd_c2 k g1 g2
            have HD := Lib.hid (DE.out _ _ hr g2)
            clear hr
            generalize nAt m 1 l = p1 at *
            have HN1 := Lib.hid N1
            have HN2 := Lib.hid (fun w' => N2 w' j2)
            clear N1 N2 NO TO ND TD hdr
            go_enter Tryd.func34, Tryd.ntmps34
            go_wp2_with fail
            go_region_with (first | (go_at_call 57; refine (SU.out _).mono ?_; rintro e' w7 ⟨rfl, rfl⟩) | (go_at_call 56; refine (LW.out _).mono ?_; rintro e' w8 ⟨rfl, b8⟩))
            have b8 := (show Below (w.alloc (.cells #[.int .u8 0, .int .i64 0, .int .i64 0, .string ⟨#[]⟩] 49)).heap.size (w.alloc (.cells #[.int .u8 0, .int .i64 0, .int .i64 0, .string ⟨#[]⟩] 49)) w8 from ⟨b8.os, b8.tape, b8.output, b8.size, b8.block⟩)
            have HZW := Lib.hid ((b8.block w.heap.size (lt_of_block HZW.out)).trans HZW.out)
            have BW := Lib.hid (below_trans' BW.out b8)
            clear b8
            go_wp2_with fail
            refine (HN1.out _ (by omega)).mono ?_
            rintro e' w7 ⟨rfl, rfl⟩
            go_wp2_with fail
            refine (HN2.out _).mono ?_
            rintro e' w6 ⟨rfl, rfl⟩
            obtain ⟨⟨q0, q1, q2, q3⟩, fz⟩ := cells4 HZW.out
            have f0 := fz 0
            have f1 := fz 1
            have f2 := fz 2
            have f3 := fz 3
            have hp := put4 HZW.out (.int .u8 0) (.int .i64 0) (.int .i64 0) (.string ⟨#[]⟩)
            have bb := below_put4 BW.out (Nat.le_refl w.heap.size) (.int .u8 0) (.int .i64 0) (.int .i64 0) (.string ⟨#[]⟩)
            clear fz
            go_wp2_with fail
            generalize ((((w8.setCell ⟨w.heap.size, 0, none⟩ (.int .u8 0)).setCell ⟨w.heap.size, 1, none⟩ (.int .i64 0)).setCell ⟨w.heap.size, 2, none⟩ (.int .i64 0)).setCell ⟨w.heap.size, 3, none⟩ (.string ⟨#[]⟩)) = w9' at hp bb ⊢
            obtain ⟨⟨r0, r1, r2, r3⟩, _⟩ := cells4 hp
            (try simp only [Exit.inBlock, Exit.then])
            refine bodyPost_ret (by simp [results, Tryd.results34, go_sem, r0, r1, r2, r3]; try rfl) rfl ?_
            exact ⟨by rw [HD.out, HZV.out]; try rfl, bb⟩
        · have hg1 : (0 : Int) < gC l := by omega
          obtain ⟨f, hr⟩ := rd_c1 k g1
          have HD := Lib.hid (DE.out _ _ hr g1)
          clear hr
          have HN1 := Lib.hid N1
          clear N1 NO TO ND TD hdr
          go_enter Tryd.func34, Tryd.ntmps34
          go_wp2_with fail
          go_region_with (first | (go_at_call 57; refine (SU.out _).mono ?_; rintro e' w7 ⟨rfl, rfl⟩) | (go_at_call 56; refine (LW.out _).mono ?_; rintro e' w8 ⟨rfl, b8⟩))
          have b8 := (show Below (w.alloc (.cells #[.int .u8 0, .int .i64 0, .int .i64 0, .string ⟨#[]⟩] 49)).heap.size (w.alloc (.cells #[.int .u8 0, .int .i64 0, .int .i64 0, .string ⟨#[]⟩] 49)) w8 from ⟨b8.os, b8.tape, b8.output, b8.size, b8.block⟩)
          have HZW := Lib.hid ((b8.block w.heap.size (lt_of_block HZW.out)).trans HZW.out)
          have BW := Lib.hid (below_trans' BW.out b8)
          clear b8
          go_wp2_with fail
          refine (HN1.out _ (by omega)).mono ?_
          rintro e' w7 ⟨rfl, rfl⟩
          obtain ⟨⟨q0, q1, q2, q3⟩, fz⟩ := cells4 HZW.out
          have f0 := fz 0
          have f1 := fz 1
          have f2 := fz 2
          have f3 := fz 3
          have hp := put4 HZW.out (.int .u8 0) (.int .i64 0) (.int .i64 0) (.string ⟨#[]⟩)
          have bb := below_put4 BW.out (Nat.le_refl w.heap.size) (.int .u8 0) (.int .i64 0) (.int .i64 0) (.string ⟨#[]⟩)
          clear fz
          go_wp2_with fail
          generalize ((((w8.setCell ⟨w.heap.size, 0, none⟩ (.int .u8 0)).setCell ⟨w.heap.size, 1, none⟩ (.int .i64 0)).setCell ⟨w.heap.size, 2, none⟩ (.int .i64 0)).setCell ⟨w.heap.size, 3, none⟩ (.string ⟨#[]⟩)) = w9' at hp bb ⊢
          obtain ⟨⟨r0, r1, r2, r3⟩, _⟩ := cells4 hp
          (try simp only [Exit.inBlock, Exit.then])
          refine bodyPost_ret (by simp [results, Tryd.results34, go_sem, r0, r1, r2, r3]; try rfl) rfl ?_
          exact ⟨by rw [HD.out, HZV.out]; try rfl, bb⟩
    · have hcmp : ((bs (lowL (csum (s.data.toList.take m)))).toList == (bs (s.data.toList.drop m)).toList) = false := by simp [ByteArray.toList_eq, hsum]
      have HD := Lib.hid (D10.out hsum)
      clear D4 D10 hsum
      go_enter Tryd.func34, Tryd.ntmps34
      go_wp2_with fail
      go_region_with (first | (go_at_call 57; refine (SU.out _).mono ?_; rintro e' w7 ⟨rfl, rfl⟩) | (go_at_call 56; refine (LW.out _).mono ?_; rintro e' w8 ⟨rfl, b8⟩))
      all_goals
        have b8 := (show Below (w.alloc (.cells #[.int .u8 0, .int .i64 0, .int .i64 0, .string ⟨#[]⟩] 49)).heap.size (w.alloc (.cells #[.int .u8 0, .int .i64 0, .int .i64 0, .string ⟨#[]⟩] 49)) w8 from ⟨b8.os, b8.tape, b8.output, b8.size, b8.block⟩)
        have HZW := Lib.hid ((b8.block w.heap.size (lt_of_block HZW.out)).trans HZW.out)
        have BW := Lib.hid (below_trans' BW.out b8)
        clear b8
        obtain ⟨⟨q0, q1, q2, q3⟩, fz⟩ := cells4 HZW.out
        have f0 := fz 0
        have f1 := fz 1
        have f2 := fz 2
        have f3 := fz 3
        have hp := put4 HZW.out (.int .u8 0) (.int .i64 0) (.int .i64 0) (.string ⟨#[]⟩)
        have bb := below_put4 BW.out (Nat.le_refl w.heap.size) (.int .u8 0) (.int .i64 0) (.int .i64 0) (.string ⟨#[]⟩)
        clear fz
        go_wp2_with fail
        generalize ((((w8.setCell ⟨w.heap.size, 0, none⟩ (.int .u8 0)).setCell ⟨w.heap.size, 1, none⟩ (.int .i64 0)).setCell ⟨w.heap.size, 2, none⟩ (.int .i64 0)).setCell ⟨w.heap.size, 3, none⟩ (.string ⟨#[]⟩)) = w9' at hp bb ⊢
        obtain ⟨⟨r0, r1, r2, r3⟩, _⟩ := cells4 hp
        (try simp only [Exit.inBlock, Exit.then])
        refine bodyPost_ret (by simp [results, Tryd.results34, go_sem, r0, r1, r2, r3]; try rfl) rfl ?_
        exact ⟨by rw [HD.out, HZV.out]; try rfl, bb⟩
end Go.Proofs.YtkojhnmchbhbbaaDoor
