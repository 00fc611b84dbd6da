/- Contract of the document's OpsFault. -/
import Derived.Test.YtkhjhbgoccljfaaDoorOps2
import Derived.Test.YtkhjhbgoccljfaaDoorRefSign
namespace Go.Proofs.YtkhjhbgoccljfaaDoor
open Go.RowKit
set_option linter.unusedVariables false

theorem set2A {w : World} {b : Nat} {x y : Value} {t : TypeId} (h : w.heap[b]? = some (.cells #[x, y] t (0, 0))) (u v : Value) (o : Obj) :
    (((w.setCell ⟨b, 0, none⟩ u).setCell ⟨b, 1, none⟩ v).alloc o).cell? ⟨b, 0, none⟩ = some u ∧ (((w.setCell ⟨b, 0, none⟩ u).setCell ⟨b, 1, none⟩ v).alloc o).cell? ⟨b, 1, none⟩ = some v := by
  obtain ⟨h1, h2⟩ := set2 h u v
  exact ⟨((below_one _ o).cell (World.block_lt_of_cell? _ _ h1)).trans h1, ((below_one _ o).cell (World.block_lt_of_cell? _ _ h2)).trans h2⟩
theorem below_set2A {B b : Nat} {x w : World} (h : Below B x w) (hb : B ≤ b) (hw : B ≤ w.heap.size) (u v : Value) (o : Obj) : Below B x (((w.setCell ⟨b, 0, none⟩ u).setCell ⟨b, 1, none⟩ v).alloc o) :=
  have h2 := (h.setCell (p := ⟨b, 0, none⟩) hb u).setCell (p := ⟨b, 1, none⟩) hb v
  h2.alloc (by rw [World.size_setCell, World.size_setCell]; exact hw) o
set_option maxRecDepth 100000 in
set_option maxHeartbeats 6400000 in
theorem rof_any (s0 : Option Addr) (n0 c0 : Nat) (l : List POp) (w : World) (hl : SliceIs w (.slice s0 n0 c0) 4 (ocells l)) :
    Calls Tryd.prog 34 #[.slice s0 n0 c0] w fun e w' => e = .returned (rfv (chkOps l)) ∧ Below w.heap.size w w' := by
  obtain ⟨rfl, hc0, hc1⟩ := ops_len hl
  have HB0 := Lib.hid (below_one w (.cells #[.int .i64 0, .int .i64 0] 32))
  have HLS := Lib.hid (hl.below HB0.out)
  have MK := Lib.hid (rfv_mk (chkOps l))
  have HCH := Lib.hid (show chkOps l = chkO (l.drop 0) 0 by unfold chkOps; rfl)
  have hfz : (w.alloc (.cells #[.int .i64 0, .int .i64 0] 32)).heap[w.heap.size]? = some (.cells #[.int .i64 0, .int .i64 0] 32 (0, 0)) := heap_alloc_new _ _
  have HZ := Lib.hid hfz
  clear hl hfz
  go_enter Tryd.func34, Tryd.ntmps34
  go_wp2_with fail
  generalize w.alloc (.cells #[.int .i64 0, .int .i64 0] 32) = w0 at *
  go_loopw [3, 4, 5] (fun i _ _ wr => ∃ k : Nat, i = .int .i64 k ∧ k ≤ l.length ∧ chkOps l = chkO (l.drop k) k ∧ Below w0.heap.size w0 wr) (fun i _ _ _ => l.length - (intOf i).toNat)
  case atStart => exact ⟨0, rfl, by omega, HCH.out, Below.refl _ _⟩
  case round =>
    obtain ⟨k, rfl, hk, hf, bel⟩ := hrel
    have HF := Lib.hid hf
    clear hf
    have hzr := (bel.block w.heap.size (lt_of_block HZ.out)).trans HZ.out
    by_cases hlt : k < l.length
    · have hltI : (k : Int) < l.length := by omega
      obtain ⟨ad, rfl, d0, d1, d2, d3⟩ := ops_cells (HLS.out.below bel) k hlt
      have KK := Lib.hid (show k + 1 ≤ l.length by omega)
      have BAD := Lib.hid (fun hb => HF.out.trans (chkO_bad hlt hb))
      have NEXT := Lib.hid (fun hb => HF.out.trans (chkO_next hlt hb))
      have x1 : (0 : Int) ≤ k := by omega
      have x2 : (k : Int).toNat = k := by omega
      generalize l[k] = o at d0 d1 d2 d3 BAD NEXT
      have H1 := Lib.hid (opC_shape (o := o))
      have H2 := Lib.hid (opC_bound (o := o))
      have H3 := Lib.hid (opC_fine (o := o))
      have H4 := Lib.hid (opD_shape (o := o))
      have H5 := Lib.hid (opD_bound (o := o))
      have H6 := Lib.hid (opD_fine (o := o))
      have H7 := Lib.hid (opK (o := o))
      obtain ⟨K, a, n, D⟩ := o
      simp only [] at d0 d1 d2 d3 H1 H2 H3 H4 H5 H6 H7
      have belA := bel.alloc bel.size (.cells #[.string (bs K), .int .i64 a, .int .i64 n, .string (bs D)] 67)
      have hlw := lt_of_block hzr
      have HZR := Lib.hid hzr
      have BEL := Lib.hid bel
      have BELA := Lib.hid belA
      have f0 : wr.frozen? ⟨w.heap.size, 0, none⟩ = false := by simp [World.frozen?, hzr]
      have f1 : wr.frozen? ⟨w.heap.size, 1, none⟩ = false := by simp [World.frozen?, hzr]
      have e0 : wr.cell? ⟨w.heap.size, 0, none⟩ = some (.int .i64 0) := by simp [World.cell?, hzr]
      have e1 : wr.cell? ⟨w.heap.size, 1, none⟩ = some (.int .i64 0) := by simp [World.cell?, hzr]
      clear hzr belA
      by_cases hk : K = kCopy
      · have k1 := tl_eq K [99, 111, 112, 121] (by rw [hk, kCopy_is])
        by_cases hd : D = []
        · have d4 := tl_eq D [] hd
          have d5 := tl_em D hd
          by_cases ha : 0 ≤ a ∧ a ≤ 4000
          · by_cases hn : 1 ≤ n ∧ n ≤ 4000
            · have HC := Lib.hid (H3.out hk hd ⟨ha, hn⟩)
              obtain ⟨ha1, ha2⟩ := ha
              obtain ⟨hn1, hn2⟩ := hn
              clear hk hd
              have N := Lib.hid (NEXT.out HC.out)
              clear BAD NEXT H1 H2 H3 H4 H5 H6 H7
              go_wp2_with fail
              go_roundw
              case rel => exact ⟨k + 1, by go_num, KK.out, N.out, BELA.out⟩
              case measure => simp [intOf]; omega
            · have HC := Lib.hid (H2.out hk hd (fun h => hn h.2))
              obtain ⟨ha1, ha2⟩ := ha
              have hn3 : n < 1 ∨ ¬ n < 1 ∧ 4000 < n := by omega
              clear hk hd hn
              rcases hn3 with hn | ⟨hn, hn'⟩
              all_goals
                have hb := Lib.hid (BAD.out (by rw [HC.out]; decide))
                rw [HC.out] at hb
                clear BAD NEXT H1 H2 H3 H4 H5 H6 H7
                obtain ⟨r0, r1⟩ := set2A HZR.out (.int .i64 2) (.int .i64 k) (.cells #[.string (bs K), .int .i64 a, .int .i64 n, .string (bs D)] 67)
                have bb := below_set2A (below_trans' HB0.out BEL.out) (Nat.le_refl _) (by omega) (.int .i64 2) (.int .i64 k) (.cells #[.string (bs K), .int .i64 a, .int .i64 n, .string (bs D)] 67)
                go_wp2_with fail
                generalize ((wr.setCell ⟨w.heap.size, 0, none⟩ (.int .i64 2)).setCell ⟨w.heap.size, 1, none⟩ (.int .i64 k)).alloc (.cells #[.string (bs K), .int .i64 a, .int .i64 n, .string (bs D)] 67) = w2 at r0 r1 bb ⊢
                (try simp only [Exit.inBlock, Exit.then])
                refine bodyPost_ret (by simp [results, Tryd.results34, go_sem, r0, r1]; try rfl) rfl ?_
                exact ⟨by rw [← MK.out _ _ hb.out]; rfl, bb⟩
          · have HC := Lib.hid (H2.out hk hd (fun h => ha h.1))
            have ha3 : a < 0 ∨ ¬ a < 0 ∧ 4000 < a := by omega
            clear hk hd ha
            rcases ha3 with ha | ⟨ha, ha'⟩
            all_goals
              have hb := Lib.hid (BAD.out (by rw [HC.out]; decide))
              rw [HC.out] at hb
              clear BAD NEXT H1 H2 H3 H4 H5 H6 H7
              obtain ⟨r0, r1⟩ := set2A HZR.out (.int .i64 2) (.int .i64 k) (.cells #[.string (bs K), .int .i64 a, .int .i64 n, .string (bs D)] 67)
              have bb := below_set2A (below_trans' HB0.out BEL.out) (Nat.le_refl _) (by omega) (.int .i64 2) (.int .i64 k) (.cells #[.string (bs K), .int .i64 a, .int .i64 n, .string (bs D)] 67)
              go_wp2_with fail
              generalize ((wr.setCell ⟨w.heap.size, 0, none⟩ (.int .i64 2)).setCell ⟨w.heap.size, 1, none⟩ (.int .i64 k)).alloc (.cells #[.string (bs K), .int .i64 a, .int .i64 n, .string (bs D)] 67) = w2 at r0 r1 bb ⊢
              (try simp only [Exit.inBlock, Exit.then])
              refine bodyPost_ret (by simp [results, Tryd.results34, go_sem, r0, r1]; try rfl) rfl ?_
              exact ⟨by rw [← MK.out _ _ hb.out]; rfl, bb⟩
        · have d4 := tl_ne D [] hd
          have d5 := tl_nem D hd
          have HC := Lib.hid (H1.out hk hd)
          clear hk hd
          have hb := Lib.hid (BAD.out (by rw [HC.out]; decide))
          rw [HC.out] at hb
          clear BAD NEXT H1 H2 H3 H4 H5 H6 H7
          obtain ⟨r0, r1⟩ := set2A HZR.out (.int .i64 3) (.int .i64 k) (.cells #[.string (bs K), .int .i64 a, .int .i64 n, .string (bs D)] 67)
          have bb := below_set2A (below_trans' HB0.out BEL.out) (Nat.le_refl _) (by omega) (.int .i64 3) (.int .i64 k) (.cells #[.string (bs K), .int .i64 a, .int .i64 n, .string (bs D)] 67)
          go_wp2_with fail
          generalize ((wr.setCell ⟨w.heap.size, 0, none⟩ (.int .i64 3)).setCell ⟨w.heap.size, 1, none⟩ (.int .i64 k)).alloc (.cells #[.string (bs K), .int .i64 a, .int .i64 n, .string (bs D)] 67) = w2 at r0 r1 bb ⊢
          (try simp only [Exit.inBlock, Exit.then])
          refine bodyPost_ret (by simp [results, Tryd.results34, go_sem, r0, r1]; try rfl) rfl ?_
          exact ⟨by rw [← MK.out _ _ hb.out]; rfl, bb⟩
      · have k1 := tl_ne K [99, 111, 112, 121] (by rw [← kCopy_is]; exact hk)
        by_cases hk2 : K = kData
        · have k2 := tl_eq K [100, 97, 116, 97] (by rw [hk2, kData_is])
          by_cases ha : a = 0
          · by_cases hn : n = 0
            · by_cases hdl : 1 ≤ D.length ∧ D.length ≤ 4000
              · have HC := Lib.hid (H6.out hk hk2 ⟨ha, hn⟩ hdl)
                obtain ⟨hd1, hd2⟩ := hdl
                have hd3 : ¬ (D.length : Int) < 1 := by omega
                have hd4 : ¬ (4000 : Int) < D.length := by omega
                clear hk hk2
                subst ha hn
                have N := Lib.hid (NEXT.out HC.out)
                clear BAD NEXT H1 H2 H3 H4 H5 H6 H7
                go_wp2_with fail
                go_roundw
                case rel => exact ⟨k + 1, by go_num, KK.out, N.out, BELA.out⟩
                case measure => simp [intOf]; omega
              · have HC := Lib.hid (H5.out hk hk2 ⟨ha, hn⟩ hdl)
                have hd3 : (D.length : Int) < 1 ∨ ¬ (D.length : Int) < 1 ∧ (4000 : Int) < D.length := by omega
                clear hk hk2 hdl
                subst ha hn
                rcases hd3 with hd | ⟨hd, hd'⟩
                all_goals
                  have hb := Lib.hid (BAD.out (by rw [HC.out]; decide))
                  rw [HC.out] at hb
                  clear BAD NEXT H1 H2 H3 H4 H5 H6 H7
                  obtain ⟨r0, r1⟩ := set2A HZR.out (.int .i64 2) (.int .i64 k) (.cells #[.string (bs K), .int .i64 0, .int .i64 0, .string (bs D)] 67)
                  have bb := below_set2A (below_trans' HB0.out BEL.out) (Nat.le_refl _) (by omega) (.int .i64 2) (.int .i64 k) (.cells #[.string (bs K), .int .i64 0, .int .i64 0, .string (bs D)] 67)
                  go_wp2_with fail
                  generalize ((wr.setCell ⟨w.heap.size, 0, none⟩ (.int .i64 2)).setCell ⟨w.heap.size, 1, none⟩ (.int .i64 k)).alloc (.cells #[.string (bs K), .int .i64 0, .int .i64 0, .string (bs D)] 67) = w2 at r0 r1 bb ⊢
                  (try simp only [Exit.inBlock, Exit.then])
                  refine bodyPost_ret (by simp [results, Tryd.results34, go_sem, r0, r1]; try rfl) rfl ?_
                  exact ⟨by rw [← MK.out _ _ hb.out]; rfl, bb⟩
            · have n1 : (n != 0) = true := by simp [hn]
              have HC := Lib.hid (H4.out hk hk2 (.inr hn))
              clear hk hk2 hn
              subst ha
              have hb := Lib.hid (BAD.out (by rw [HC.out]; decide))
              rw [HC.out] at hb
              clear BAD NEXT H1 H2 H3 H4 H5 H6 H7
              obtain ⟨r0, r1⟩ := set2A HZR.out (.int .i64 3) (.int .i64 k) (.cells #[.string (bs K), .int .i64 0, .int .i64 n, .string (bs D)] 67)
              have bb := below_set2A (below_trans' HB0.out BEL.out) (Nat.le_refl _) (by omega) (.int .i64 3) (.int .i64 k) (.cells #[.string (bs K), .int .i64 0, .int .i64 n, .string (bs D)] 67)
              go_wp2_with fail
              generalize ((wr.setCell ⟨w.heap.size, 0, none⟩ (.int .i64 3)).setCell ⟨w.heap.size, 1, none⟩ (.int .i64 k)).alloc (.cells #[.string (bs K), .int .i64 0, .int .i64 n, .string (bs D)] 67) = w2 at r0 r1 bb ⊢
              (try simp only [Exit.inBlock, Exit.then])
              refine bodyPost_ret (by simp [results, Tryd.results34, go_sem, r0, r1]; try rfl) rfl ?_
              exact ⟨by rw [← MK.out _ _ hb.out]; rfl, bb⟩
          · have a1 : (a != 0) = true := by simp [ha]
            have HC := Lib.hid (H4.out hk hk2 (.inl ha))
            clear hk hk2 ha
            have hb := Lib.hid (BAD.out (by rw [HC.out]; decide))
            rw [HC.out] at hb
            clear BAD NEXT H1 H2 H3 H4 H5 H6 H7
            obtain ⟨r0, r1⟩ := set2A HZR.out (.int .i64 3) (.int .i64 k) (.cells #[.string (bs K), .int .i64 a, .int .i64 n, .string (bs D)] 67)
            have bb := below_set2A (below_trans' HB0.out BEL.out) (Nat.le_refl _) (by omega) (.int .i64 3) (.int .i64 k) (.cells #[.string (bs K), .int .i64 a, .int .i64 n, .string (bs D)] 67)
            go_wp2_with fail
            generalize ((wr.setCell ⟨w.heap.size, 0, none⟩ (.int .i64 3)).setCell ⟨w.heap.size, 1, none⟩ (.int .i64 k)).alloc (.cells #[.string (bs K), .int .i64 a, .int .i64 n, .string (bs D)] 67) = w2 at r0 r1 bb ⊢
            (try simp only [Exit.inBlock, Exit.then])
            refine bodyPost_ret (by simp [results, Tryd.results34, go_sem, r0, r1]; try rfl) rfl ?_
            exact ⟨by rw [← MK.out _ _ hb.out]; rfl, bb⟩
        · have k2 := tl_ne K [100, 97, 116, 97] (by rw [← kData_is]; exact hk2)
          have HC := Lib.hid (H7.out hk hk2)
          clear hk hk2
          have hb := Lib.hid (BAD.out (by rw [HC.out]; decide))
          rw [HC.out] at hb
          clear BAD NEXT H1 H2 H3 H4 H5 H6 H7
          obtain ⟨r0, r1⟩ := set2A HZR.out (.int .i64 4) (.int .i64 k) (.cells #[.string (bs K), .int .i64 a, .int .i64 n, .string (bs D)] 67)
          have bb := below_set2A (below_trans' HB0.out BEL.out) (Nat.le_refl _) (by omega) (.int .i64 4) (.int .i64 k) (.cells #[.string (bs K), .int .i64 a, .int .i64 n, .string (bs D)] 67)
          go_wp2_with fail
          generalize ((wr.setCell ⟨w.heap.size, 0, none⟩ (.int .i64 4)).setCell ⟨w.heap.size, 1, none⟩ (.int .i64 k)).alloc (.cells #[.string (bs K), .int .i64 a, .int .i64 n, .string (bs D)] 67) = w2 at r0 r1 bb ⊢
          (try simp only [Exit.inBlock, Exit.then])
          refine bodyPost_ret (by simp [results, Tryd.results34, go_sem, r0, r1]; try rfl) rfl ?_
          exact ⟨by rw [← MK.out _ _ hb.out]; rfl, bb⟩
    · have hltI : ¬ (k : Int) < l.length := by omega
      have hb := Lib.hid (HF.out.trans (chkO_end (by omega : l.length ≤ k)))
      have HZR := Lib.hid hzr
      have bel0 := below_trans' HB0.out bel
      clear hzr bel
      go_wp2_with fail
      refine (rfine_any _).mono ?_
      rintro e w1 ⟨rfl, b1⟩
      have hz1 := (b1.block w.heap.size (lt_of_block HZR.out)).trans HZR.out
      have f0 : w1.frozen? ⟨w.heap.size, 0, none⟩ = false := by simp [World.frozen?, hz1]
      have f1 : w1.frozen? ⟨w.heap.size, 1, none⟩ = false := by simp [World.frozen?, hz1]
      have e0 : w1.cell? ⟨w.heap.size, 0, none⟩ = some (.int .i64 0) := by simp [World.cell?, hz1]
      have e1 : w1.cell? ⟨w.heap.size, 1, none⟩ = some (.int .i64 0) := by simp [World.cell?, hz1]
      obtain ⟨r0, r1⟩ := set2 hz1 (.int .i64 0) (.int .i64 (-1))
      have bb := ((below_trans' bel0 b1).setCell (p := ⟨w.heap.size, 0, none⟩) (Nat.le_refl _) (.int .i64 0)).setCell (p := ⟨w.heap.size, 1, none⟩) (Nat.le_refl _) (.int .i64 (-1))
      go_wp2_with fail
      generalize (w1.setCell ⟨w.heap.size, 0, none⟩ (.int .i64 0)).setCell ⟨w.heap.size, 1, none⟩ (.int .i64 (-1)) = w2 at r0 r1 bb ⊢
      (try simp only [Exit.inBlock, Exit.then])
      refine bodyPost_ret (by simp [results, Tryd.results34, go_sem, r0, r1]; try rfl) rfl ?_
      exact ⟨by rw [← MK.out _ _ hb.out]; rfl, bb⟩
end Go.Proofs.YtkhjhbgoccljfaaDoor
