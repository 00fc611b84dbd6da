/- Contract of the document's PatchOf. -/
import Derived.Test.YtphigoclkkgpoaaDoorRefOps
import Derived.Test.YtphigoclkkgpoaaDoorPatchLaws
import Derived.Test.YtphigoclkkgpoaaDoorDeltaText
import Derived.Deep.RegionWith
namespace Go.Proofs.YtphigoclkkgpoaaDoor
open Go.RowKit
set_option linter.unusedVariables false

theorem cnt_ge {size len k : Nat} (hs : 0 < size) : cntOf size len ≤ k ↔ len ≤ k * size := by
  unfold cntOf
  rw [Nat.div_le_iff_le_mul_add_pred hs, Nat.mul_comm size k]
  omega
theorem sub_bs (L : List UInt8) (i k e : Nat) (h : e = i + k ∧ e ≤ L.length ∨ e = L.length ∧ L.length ≤ i + k) : (bs L).extract i e = bs ((L.drop i).take k) := by
  apply eq_bs
  rcases h with ⟨h, _⟩ | ⟨h, h'⟩
  · subst h; simp
  · subst h
    simp
    omega
theorem lit0 : (⟨#[]⟩ : ByteArray) = bs [] := bs_nil.symm
set_option maxRecDepth 100000 in
set_option maxHeartbeats 6400000 in
theorem rpatch_any (old : List UInt8) (size : Int) (s0 : Option Addr) (n0 c0 : Nat) (l : List POp) (w : World) (hl : SliceIs w (.slice s0 n0 c0) 4 (ocells l)) :
    Calls Tryd.prog 34 #[.string (bs old), .int .i64 size, .slice s0 n0 c0] w fun e w' => e = .returned (.tuple #[.string (bs (appl old size l).2), rfv (appl old size l).1]) ∧ Below w.heap.size w w' := by
  obtain ⟨rfl, hc0, hc1⟩ := ops_len hl
  have HB0 := Lib.hid (below_one w (.cells #[.int .i64 0, .int .i64 0] 62))
  have HLS := Lib.hid (hl.below HB0.out)
  have hfz : (w.alloc (.cells #[.int .i64 0, .int .i64 0] 62)).heap[w.heap.size]? = some (.cells #[.int .i64 0, .int .i64 0] 62 (0, 0)) := heap_alloc_new _ _
  have HZ := Lib.hid hfz
  have HN := Lib.hid lit0
  clear hl hfz
  by_cases hok : (1 ≤ size ∧ size ≤ 64) ∧ old.length ≤ 4000
  · have YES := Lib.hid (appl_yes (l := l) hok)
    have NOO := Lib.hid (appl_bad (l := l) hok)
    obtain ⟨⟨hs1, hs2⟩, ho⟩ := hok
    obtain ⟨z, rfl⟩ : ∃ z : Nat, size = z := ⟨size.toNat, by omega⟩
    have hsI1 : ¬ (z : Int) < 1 := by omega
    have hsI2 : ¬ (64 : Int) < z := by omega
    have hoI : ¬ (4000 : Int) < old.length := by omega
    have RO := Lib.hid (rof_any s0 l.length c0 l _ HLS.out)
    rw [rfv_is] at RO
    go_enter Tryd.func34, Tryd.ntmps34
    go_wp2_with fail
    generalize w.alloc (.cells #[.int .i64 0, .int .i64 0] 62) = w0 at *
    refine RO.out.mono ?_
    rintro e wf ⟨rfl, bf⟩
    have hzf := (bf.block w.heap.size (lt_of_block HZ.out)).trans HZ.out
    have bf0 := below_trans' HB0.out bf
    have HLF := Lib.hid (HLS.out.below bf)
    clear bf
    by_cases hc : (chkOps l).1 = 0
    · have hcp := chkOps_pair l hc
      have HY := Lib.hid (YES.out hc)
      have HOP := Lib.hid ((chkOps_ok l).1 hc)
      clear YES NOO RO hc
      have zt : ((z : Int)).toNat = z := by omega
      rw [zt] at HY
      have hr0 : appA old z l 0 [] = appA old z (l.drop 0) 0 [] := by simp
      have HR0 := Lib.hid (HY.out.trans hr0)
      rw [hcp]
      simp only []
      rw [show ((0 : Nat) : Int) = 0 from rfl]
      clear HY hr0 zt hcp
      have bg := below_one wf (.cells #[.int .i64 0, .int .i64 (-1)] 62)
      have hzg := (bg.block w.heap.size (lt_of_block hzf)).trans hzf
      have bg0 := below_trans' bf0 bg
      have HLG := Lib.hid (HLF.out.below bg)
      go_wp2_with fail
      generalize wf.alloc (.cells #[.int .i64 0, .int .i64 (-1)] 62) = wg at *
      have HZG := Lib.hid hzg
      have BG0 := Lib.hid bg0
      clear hzf bf0 HLF bg hzg bg0
      go_loopw [9, 10, 11, 12, 13, 14, 15] (fun o i _ _ _ _ _ wr => ∃ (k : Nat) (out : List UInt8), i = .int .i64 k ∧ k ≤ l.length ∧ o = .string (bs out) ∧ out.length ≤ 4000 ∧ appl old z l = appA old z (l.drop k) k out ∧ Below wg.heap.size wg wr) (fun _ i _ _ _ _ _ _ => l.length - (intOf i).toNat)
      case atStart => exact ⟨0, [], rfl, by omega, by rw [← HN.out], by simp, HR0.out, Below.refl _ _⟩
      case round =>
        obtain ⟨k, out, rfl, hk, rfl, hol, hap, bel⟩ := hrel
        have HAP := Lib.hid hap
        clear hap
        have hz1 := (bel.block w.heap.size (lt_of_block HZG.out)).trans HZG.out
        have bel0 := below_trans' BG0.out bel
        by_cases hlt : k < l.length
        · have hltI : (k : Int) < l.length := by omega
          obtain ⟨ad, rfl, d0, d1, d2, d3⟩ := ops_cells (HLG.out.below bel) k hlt
          have KK := Lib.hid (show k + 1 ≤ l.length by omega)
          have x1 : (0 : Int) ≤ k := by omega
          have x2 : (k : Int).toNat = k := by omega
          have hop := HOP.out _ (List.getElem_mem hlt)
          have BAD := Lib.hid (appA_bad (old := old) (size := z) (out := out) hlt)
          have FULL := Lib.hid (appA_full (old := old) (size := z) (out := out) hlt)
          have NEXT := Lib.hid (appA_next (old := old) (size := z) (out := out) hlt)
          generalize l[k] = o at d0 d1 d2 d3 hop BAD FULL NEXT
          have belA := bel.alloc bel.size (.cells #[.string (bs o.kind), .int .i64 o.a, .int .i64 o.n, .string (bs o.data)] 86)
          have hlw := lt_of_block hz1
          have HZR := Lib.hid hz1
          have BEL0 := Lib.hid bel0
          have BELA := Lib.hid belA
          have f0 : wr.frozen? ⟨w.heap.size, 0, none⟩ = false := by simp [World.frozen?, hz1]
          have f1 : wr.frozen? ⟨w.heap.size, 1, none⟩ = false := by simp [World.frozen?, hz1]
          have e0 : wr.cell? ⟨w.heap.size, 0, none⟩ = some (.int .i64 0) := by simp [World.cell?, hz1]
          have e1 : wr.cell? ⟨w.heap.size, 1, none⟩ = some (.int .i64 0) := by simp [World.cell?, hz1]
          clear hz1 bel0 belA
          by_cases hkd : o.kind = kCopy
          · obtain ⟨o0, o1, o2, o3, o4⟩ := opC_copy hop hkd
            have hk2 : o.kind ≠ kData := by rw [hkd]; exact kne.symm
            have PN := Lib.hid (pieceC_none (old := old) (size := z) hk2)
            have PC := Lib.hid (pieceC_copy (old := old) (size := z) hk2)
            have k1 := tl_eq o.kind [99, 111, 112, 121] (by rw [hkd, kCopy_is])
            obtain ⟨K, a, n, D⟩ := o
            simp only [] at d0 d1 d2 d3 BAD FULL NEXT PN PC k1 o0 o1 o2 o3 o4 BELA
            obtain ⟨a, rfl⟩ : ∃ x : Nat, a = x := ⟨a.toNat, by omega⟩
            obtain ⟨n, rfl⟩ : ∃ x : Nat, n = x := ⟨n.toNat, by omega⟩
            rw [show ((a : Int)).toNat = a by omega, show ((n : Int)).toNat = n by omega] at PC
            have hD : bs D = ⟨#[]⟩ := by rw [o0, bs_nil]
            have HD := Lib.hid o0
            clear hkd hk2 hop o0
            rw [hD] at d3 BELA
            go_wp2_with fail
            go_loopw [12, 13, 14, 15] (fun p q _ _ wi => ∃ (j : Nat) (P : List UInt8), q = .int .i64 j ∧ j ≤ n ∧ p = .string (bs P) ∧ P = (old.drop (a * z)).take (j * z) ∧ (0 < j → a + j ≤ cntOf z old.length) ∧ wi = wr.alloc (.cells #[.string (bs K), .int .i64 a, .int .i64 n, .string ⟨#[]⟩] 86)) (fun _ q _ _ _ => n - (intOf q).toNat)
            case atStart => exact ⟨0, [], rfl, by omega, by rw [← HN.out], by simp, fun h => absurd h (by omega), rfl⟩
            case round =>
              obtain ⟨j, P, rfl, hj, rfl, hP, hcj, rfl⟩ := hrel
              have hPl : P.length ≤ old.length := by rw [hP, List.length_take, List.length_drop]; omega
              have HP := Lib.hid hP
              have HCJ := Lib.hid hcj
              clear hP hcj
              by_cases hjn : j < n
              · have hjI : (j : Int) < n := by omega
                have JJ := Lib.hid (show j + 1 ≤ n by omega)
                have hm4 : (a + j) * z ≤ 8000 * 64 := Nat.mul_le_mul (by omega) (by omega)
                have e3 := add_mul_wrap a j z (by omega)
                have hge := cnt_ge (size := z) (len := old.length) (k := a + j) (by omega)
                have hadd : (a + j) * z = a * z + j * z := Nat.add_mul _ _ _
                have hPN : P ++ (old.drop ((a + j) * z)).take z = (old.drop (a * z)).take ((j + 1) * z) := by
                  rw [HP.out, show (j + 1) * z = j * z + z by rw [Nat.add_mul]; omega, List.take_add, List.drop_drop, hadd]
                have HPN := Lib.hid hPN
                have HGE := Lib.hid hge
                clear hPN hge hadd
                generalize hmm : (a + j) * z = m at *
                have HMM := Lib.hid hmm
                clear hmm
                have y1 : (m : Int).toNat = m := by omega
                have y2 : ((m : Int) + (z : Int)).toNat = m + z := by omega
                have y3 : (0 : Int) ≤ m := by omega
                by_cases hin : old.length ≤ m
                · have hinI : (old.length : Int) ≤ m := by omega
                  have hcn : cntOf z old.length ≤ a + j := HGE.out.2 hin
                  have hb := PN.out (by omega)
                  have HB := Lib.hid (BAD.out (by rw [hb]; decide))
                  rw [hb] at HB
                  have HBB := Lib.hid (HAP.out.trans HB.out)
                  clear hb HB hcn BAD FULL NEXT PN PC HPN HGE
                  obtain ⟨r0, r1⟩ := set2A HZR.out (.int .i64 6) (.int .i64 k) (.cells #[.string (bs K), .int .i64 a, .int .i64 n, .string ⟨#[]⟩] 86)
                  have bb := below_set2A BEL0.out (Nat.le_refl _) (by omega) (.int .i64 6) (.int .i64 k) (.cells #[.string (bs K), .int .i64 a, .int .i64 n, .string ⟨#[]⟩] 86)
                  go_wp2_with fail
                  generalize ((wr.setCell ⟨w.heap.size, 0, none⟩ (.int .i64 6)).setCell ⟨w.heap.size, 1, none⟩ (.int .i64 k)).alloc (.cells #[.string (bs K), .int .i64 a, .int .i64 n, .string ⟨#[]⟩] 86) = w2 at r0 r1 bb ⊢
                  (try simp only [Exit.inBlock, Exit.then])
                  refine bodyPost_ret (by simp [results, Tryd.results34, go_sem, r0, r1]; try rfl) rfl ?_
                  exact ⟨by rw [HBB.out, rfv_is]; first | rfl | (simp only [HN.out]; rfl), bb⟩
                · have hinI : ¬ (old.length : Int) ≤ m := by omega
                  have hcn : a + (j + 1) ≤ cntOf z old.length := by
                    have hnc : ¬ cntOf z old.length ≤ a + j := fun h => hin (HGE.out.1 h)
                    omega
                  have HCN := Lib.hid (fun (_ : 0 < j + 1) => hcn)
                  clear hcn
                  by_cases hto : m + z ≤ old.length
                  · have htoI : ¬ (old.length : Int) < (m : Int) + z := by omega
                    have y5 : (m : Int) ≤ (m : Int) + (z : Int) := by omega
                    have y6 : (m : Int) + (z : Int) ≤ old.length := by omega
                    have hex := sub_bs old m z (m + z) (.inl ⟨rfl, hto⟩)
                    have hQl : ((old.drop m).take z).length ≤ 4000 := by rw [List.length_take]; omega
                    generalize (old.drop m).take z = Q at *
                    have hadd2 : bs P ++ bs Q = bs (P ++ Q) := bsapp _ _
                    have hcat : ¬ 9223372036854775807 < P.length + Q.length := by omega
                    go_wp2_with fail
                    go_roundw
                    case rel => exact ⟨j + 1, _, by go_num, JJ.out, by first | rfl | (rw [← bsapp]; done), HPN.out, HCN.out, by first | rfl | trivial⟩
                    case measure => simp [intOf]; omega
                  · have htoI : (old.length : Int) < (m : Int) + z := by omega
                    have y5 : (m : Int) ≤ old.length := by omega
                    have hex := sub_bs old m z old.length (.inr ⟨rfl, by omega⟩)
                    have hQl : ((old.drop m).take z).length ≤ 4000 := by rw [List.length_take]; omega
                    generalize (old.drop m).take z = Q at *
                    have hadd2 : bs P ++ bs Q = bs (P ++ Q) := bsapp _ _
                    have hcat : ¬ 9223372036854775807 < P.length + Q.length := by omega
                    go_wp2_with fail
                    go_roundw
                    case rel => exact ⟨j + 1, _, by go_num, JJ.out, by first | rfl | (rw [← bsapp]; done), HPN.out, HCN.out, by first | rfl | trivial⟩
                    case measure => simp [intOf]; omega
              · have hjI : ¬ (j : Int) < n := by omega
                have hjn2 : j = n := by omega
                have hpc := PC.out (by have := HCJ.out (by omega); omega)
                have hPn := HP.out
                rw [hjn2] at hPn
                rw [← hPn] at hpc
                rw [hpc] at FULL NEXT
                simp only [] at FULL NEXT
                clear hpc BAD PN PC HP HCJ hPn hjn2 hjn
                have hadd2 : bs out ++ bs P = bs (out ++ P) := bsapp _ _
                have hcat : ¬ 9223372036854775807 < out.length + P.length := by omega
                by_cases hfull : 4000 < out.length + P.length
                · have hfI : (4000 : Int) < (out.length : Int) + P.length := by omega
                  have HBB := Lib.hid (HAP.out.trans (FULL.out (by first | rfl | trivial) hfull))
                  clear FULL NEXT
                  obtain ⟨r0, r1⟩ := set2A HZR.out (.int .i64 8) (.int .i64 k) (.cells #[.string (bs K), .int .i64 a, .int .i64 n, .string ⟨#[]⟩] 86)
                  have bb := below_set2A BEL0.out (Nat.le_refl _) (by omega) (.int .i64 8) (.int .i64 k) (.cells #[.string (bs K), .int .i64 a, .int .i64 n, .string ⟨#[]⟩] 86)
                  go_wp2_with fail
                  generalize ((wr.setCell ⟨w.heap.size, 0, none⟩ (.int .i64 8)).setCell ⟨w.heap.size, 1, none⟩ (.int .i64 k)).alloc (.cells #[.string (bs K), .int .i64 a, .int .i64 n, .string ⟨#[]⟩] 86) = w2 at r0 r1 bb ⊢
                  (try simp only [Exit.inBlock, Exit.then])
                  refine bodyPost_ret (by simp [results, Tryd.results34, go_sem, r0, r1]; try rfl) rfl ?_
                  exact ⟨by rw [HBB.out, rfv_is]; first | rfl | (simp only [HN.out]; rfl), bb⟩
                · have hfI : ¬ (4000 : Int) < (out.length : Int) + P.length := by omega
                  have HBB := Lib.hid (HAP.out.trans (NEXT.out (by first | rfl | trivial) hfull))
                  clear FULL NEXT
                  go_wp2_with fail
                  go_roundw
                  case rel => exact ⟨k + 1, out ++ P, by go_num, KK.out, by first | rfl | (rw [← bsapp]; done), by simp; omega, HBB.out, BELA.out⟩
                  case measure => simp [intOf]; omega
          · have hk2 : o.kind = kData := (opC_kind hop).resolve_left hkd
            obtain ⟨o0, o1, o2, o3⟩ := opC_data hop hk2
            have hpc := pieceC_data (old := old) (size := z) hk2
            rw [hpc] at FULL NEXT
            have k1 := tl_ne o.kind [99, 111, 112, 121] (by rw [← kCopy_is]; exact hkd)
            obtain ⟨K, a, n, P⟩ := o
            simp only [] at d0 d1 d2 d3 FULL NEXT k1 o0 o1 o2 o3 BELA
            subst o0 o1
            clear hkd hk2 hop BAD hpc
            go_wp2_with fail
            go_loopw [12, 13, 14, 15] (fun p q _ _ wi => p = .string (bs P) ∧ q = .int .i64 0 ∧ wi = wr.alloc (.cells #[.string (bs K), .int .i64 0, .int .i64 0, .string (bs P)] 86)) (fun _ _ _ _ _ => 0)
            case atStart => exact ⟨rfl, rfl, rfl⟩
            case round =>
              obtain ⟨rfl, rfl, rfl⟩ := hrel
              have hPl : P.length ≤ 4000 := o3
              have hadd2 : bs out ++ bs P = bs (out ++ P) := bsapp _ _
              have hcat : ¬ 9223372036854775807 < out.length + P.length := by omega
              by_cases hfull : 4000 < out.length + P.length
              · have hfI : (4000 : Int) < (out.length : Int) + P.length := by omega
                have HBB := Lib.hid (HAP.out.trans (FULL.out (by first | rfl | trivial) hfull))
                clear FULL NEXT
                obtain ⟨r0, r1⟩ := set2A HZR.out (.int .i64 8) (.int .i64 k) (.cells #[.string (bs K), .int .i64 0, .int .i64 0, .string (bs P)] 86)
                have bb := below_set2A BEL0.out (Nat.le_refl _) (by omega) (.int .i64 8) (.int .i64 k) (.cells #[.string (bs K), .int .i64 0, .int .i64 0, .string (bs P)] 86)
                go_wp2_with fail
                generalize ((wr.setCell ⟨w.heap.size, 0, none⟩ (.int .i64 8)).setCell ⟨w.heap.size, 1, none⟩ (.int .i64 k)).alloc (.cells #[.string (bs K), .int .i64 0, .int .i64 0, .string (bs P)] 86) = w2 at r0 r1 bb ⊢
                (try simp only [Exit.inBlock, Exit.then])
                refine bodyPost_ret (by simp [results, Tryd.results34, go_sem, r0, r1]; try rfl) rfl ?_
                exact ⟨by rw [HBB.out, rfv_is]; first | rfl | (simp only [HN.out]; rfl), bb⟩
              · have hfI : ¬ (4000 : Int) < (out.length : Int) + P.length := by omega
                have HBB := Lib.hid (HAP.out.trans (NEXT.out (by first | rfl | trivial) hfull))
                clear FULL NEXT
                go_wp2_with fail
                go_roundw
                case rel => exact ⟨k + 1, out ++ P, by go_num, KK.out, by first | rfl | (rw [← bsapp]; done), by simp; omega, HBB.out, BELA.out⟩
                case measure => simp [intOf]; omega
        · have hltI : ¬ (k : Int) < l.length := by omega
          have hb := Lib.hid (HAP.out.trans (appA_end (old := old) (size := z) (out := out) (by omega : l.length ≤ k)))
          have HZR := Lib.hid hz1
          clear hz1 bel
          go_wp2_with fail
          refine (rfine_any _).mono ?_
          rintro e w1 ⟨rfl, b1⟩
          have hz1 := (b1.block w.heap.size (lt_of_block HZR.out)).trans HZR.out
          have bx := below_trans' bel0 b1
          have f0 : w1.frozen? ⟨w.heap.size, 0, none⟩ = false := by simp [World.frozen?, hz1]
          have f1 : w1.frozen? ⟨w.heap.size, 1, none⟩ = false := by simp [World.frozen?, hz1]
          have e0 : w1.cell? ⟨w.heap.size, 0, none⟩ = some (.int .i64 0) := by simp [World.cell?, hz1]
          have e1 : w1.cell? ⟨w.heap.size, 1, none⟩ = some (.int .i64 0) := by simp [World.cell?, hz1]
          obtain ⟨r0, r1⟩ := set2 hz1 (.int .i64 0) (.int .i64 (-1))
          have bb := (bx.setCell (p := ⟨w.heap.size, 0, none⟩) (Nat.le_refl _) (.int .i64 0)).setCell (p := ⟨w.heap.size, 1, none⟩) (Nat.le_refl _) (.int .i64 (-1))
          go_wp2_with fail
          generalize (w1.setCell ⟨w.heap.size, 0, none⟩ (.int .i64 0)).setCell ⟨w.heap.size, 1, none⟩ (.int .i64 (-1)) = w2 at r0 r1 bb ⊢
          (try simp only [Exit.inBlock, Exit.then])
          refine bodyPost_ret (by simp [results, Tryd.results34, go_sem, r0, r1]; try rfl) rfl ?_
          exact ⟨by rw [hb.out, rfv_is]; first | rfl | (simp only [HN.out]; rfl), bb⟩
    · have HAP := Lib.hid (NOO.out hc)
      have HC := Lib.hid hc
      clear YES NOO RO
      generalize chkOps l = p at *
      obtain ⟨c, a⟩ := p
      simp only [] at hc ⊢
      have hcI : (0 : Int) < c := by omega
      have bg := below_one wf (.cells #[.int .i64 c, .int .i64 a] 62)
      have hlw := lt_of_block hzf
      have f0 : wf.frozen? ⟨w.heap.size, 0, none⟩ = false := by simp [World.frozen?, hzf]
      have f1 : wf.frozen? ⟨w.heap.size, 1, none⟩ = false := by simp [World.frozen?, hzf]
      have e0 : wf.cell? ⟨w.heap.size, 0, none⟩ = some (.int .i64 0) := by simp [World.cell?, hzf]
      have e1 : wf.cell? ⟨w.heap.size, 1, none⟩ = some (.int .i64 0) := by simp [World.cell?, hzf]
      clear hc
      go_wp2_with fail
      obtain ⟨r0, r1⟩ := set2A hzf (.int .i64 c) (.int .i64 a) (.cells #[.int .i64 c, .int .i64 a] 62)
      have bb := below_set2A bf0 (Nat.le_refl _) (by omega) (.int .i64 c) (.int .i64 a) (.cells #[.int .i64 c, .int .i64 a] 62)
      go_region_with (fail)
      all_goals
        go_wp2_with fail
        have r0' := (show (((wf.setCell ⟨w.heap.size, 0, none⟩ (.int .i64 c)).setCell ⟨w.heap.size, 1, none⟩ (.int .i64 a)).alloc (.cells #[.int .i64 c, .int .i64 a] 62)).drew.cell? _ = _ from r0)
        have r1' := (show (((wf.setCell ⟨w.heap.size, 0, none⟩ (.int .i64 c)).setCell ⟨w.heap.size, 1, none⟩ (.int .i64 a)).alloc (.cells #[.int .i64 c, .int .i64 a] 62)).drew.cell? _ = _ from r1)
        have bb := bb.drew
        generalize (((wf.setCell ⟨w.heap.size, 0, none⟩ (.int .i64 c)).setCell ⟨w.heap.size, 1, none⟩ (.int .i64 a)).alloc (.cells #[.int .i64 c, .int .i64 a] 62)).drew = w2 at r0' r1' bb ⊢
        (try simp only [Exit.inBlock, Exit.then])
        refine bodyPost_ret (by simp [results, Tryd.results34, go_sem, r0', r1']; try rfl) rfl ?_
        exact ⟨by rw [HAP.out, rfv_is]; try (first | rfl | (simp only [HN.out]; done) | (simp only [HN.out]; rfl)), bb⟩
  · have HAP := Lib.hid (appl_no (l := l) hok)
    have hs3 : size < 1 ∨ (¬ size < 1 ∧ 64 < size) ∨ (¬ size < 1 ∧ ¬ 64 < size) ∧ (4000 : Int) < old.length := by omega
    clear hok
    rcases hs3 with h | ⟨h, h'⟩ | ⟨⟨h, h'⟩, h''⟩
    all_goals
      go_enter Tryd.func34, Tryd.ntmps34
      go_wp2_with fail
      refine (rbare_any _ _).mono ?_
      rintro e w1 ⟨rfl, b1⟩
      have hz1 := (b1.block w.heap.size (lt_of_block HZ.out)).trans HZ.out
      have f0 : w1.frozen? ⟨w.heap.size, 0, none⟩ = false := by simp [World.frozen?, hz1]
      have f1 : w1.frozen? ⟨w.heap.size, 1, none⟩ = false := by simp [World.frozen?, hz1]
      have e0 : w1.cell? ⟨w.heap.size, 0, none⟩ = some (.int .i64 0) := by simp [World.cell?, hz1]
      have e1 : w1.cell? ⟨w.heap.size, 1, none⟩ = some (.int .i64 0) := by simp [World.cell?, hz1]
      have bx := below_trans' HB0.out b1
      obtain ⟨r0, r1⟩ := set2 hz1 (.int .i64 2) (.int .i64 (-1))
      have bb := (bx.setCell (p := ⟨w.heap.size, 0, none⟩) (Nat.le_refl _) (.int .i64 2)).setCell (p := ⟨w.heap.size, 1, none⟩) (Nat.le_refl _) (.int .i64 (-1))
      go_wp2_with fail
      generalize (w1.setCell ⟨w.heap.size, 0, none⟩ (.int .i64 2)).setCell ⟨w.heap.size, 1, none⟩ (.int .i64 (-1)) = w2 at r0 r1 bb ⊢
      (try simp only [Exit.inBlock, Exit.then])
      refine bodyPost_ret (by simp [results, Tryd.results34, go_sem, r0, r1]; try rfl) rfl ?_
      exact ⟨by rw [HAP.out, rfv_is]; first | rfl | (simp only [HN.out]; rfl), bb⟩
end Go.Proofs.YtphigoclkkgpoaaDoor
