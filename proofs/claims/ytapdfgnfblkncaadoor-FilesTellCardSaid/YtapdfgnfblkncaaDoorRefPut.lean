/- The document's PutOf, where the files are not well. -/
import Derived.Test.YtapdfgnfblkncaaDoorRefFilFault
import Derived.Test.YtapdfgnfblkncaaDoorFilPlain
import Derived.Test.YtapdfgnfblkncaaDoorFilIns
namespace Go.Proofs.YtapdfgnfblkncaaDoor
open Go.RowKit
set_option linter.unusedVariables false

theorem set2d {w : World} {b : Nat} {x y : Value} {t : TypeId} (h : w.heap[b]? = some (.cells #[x, y] t (0, 0))) (u v : Value) :
    ((w.setCell ⟨b, 0, none⟩ u).setCell ⟨b, 1, none⟩ v).drew.cell? ⟨b, 0, none⟩ = some u ∧ ((w.setCell ⟨b, 0, none⟩ u).setCell ⟨b, 1, none⟩ v).drew.cell? ⟨b, 1, none⟩ = some v := set2 h u v
set_option maxRecDepth 100000 in
set_option maxHeartbeats 6400000 in
theorem putOf_bad (l : List PF) (v : Value) (n d : List UInt8) (w : World) (hl : SliceIs w v 2 (fcells l)) (hnm : ∀ x ∈ l, x.n.length ≤ 1000000000 ∧ x.d.length ≤ 1000000000) (hlen : l.length ≤ 1000000) (hf : (flFault l).1 ≠ 0) :
    Calls Tryd.prog 44 #[v, .string (bs n), .string (bs d)] w fun e w' => e = .returned (.tuple #[.slice none 0 0, rfv (flFault l)]) ∧ Below w.heap.size w w' := by
  have HB0 := Lib.hid (below_one w (.cells #[.int .i64 0, .int .i64 0] 85))
  have FF := filesFault_any l v _ (hl.below HB0.out) hnm hlen
  have hz0 := heap_alloc_new w (.cells #[.int .i64 0, .int .i64 0] 85)
  rw [rfv_is] at FF
  rw [rfv_is]
  generalize flFault l = q at *
  have HFF := Lib.hid FF
  have HZ0 := Lib.hid hz0
  have hq : (0 : Int) < q.1 := by omega
  clear FF hl hnm hf hz0
  go_enter Tryd.func44, Tryd.ntmps44
  go_wp2_with fail
  refine HFF.out.mono ?_
  rintro e w1 ⟨rfl, b1⟩
  have hz1 := (b1.block w.heap.size (by simp)).trans HZ0.out
  have hlt1 : w.heap.size < w1.heap.size := lt_of_block hz1
  have bb1 := below_trans' HB0.out b1
  clear b1 HFF
  go_wp2_with fail
  have hy := heap_alloc_new w1 (.cells #[.int .i64 q.1, .int .i64 q.2] 85)
  have hx := (heap_alloc_old w1 (.cells #[.int .i64 q.1, .int .i64 q.2] 85) hlt1).trans hz1
  have bb2 := bb1.alloc bb1.size (.cells #[.int .i64 q.1, .int .i64 q.2] 85)
  clear hz1 bb1
  generalize w1.alloc (.cells #[.int .i64 q.1, .int .i64 q.2] 85) = w2 at *
  generalize w1.heap.size = g at *
  have f0 : w2.frozen? ⟨w.heap.size, 0, none⟩ = false := by simp [World.frozen?, hx]
  have f1 : w2.frozen? ⟨w.heap.size, 1, none⟩ = false := by simp [World.frozen?, hx]
  have e0 : w2.cell? ⟨w.heap.size, 0, none⟩ = some (.int .i64 0) := by simp [World.cell?, hx]
  have e1 : w2.cell? ⟨w.heap.size, 1, none⟩ = some (.int .i64 0) := by simp [World.cell?, hx]
  have c0 : w2.cell? ⟨g, 0, none⟩ = some (.int .i64 q.1) := by simp [World.cell?, hy]
  have c1 : w2.cell? ⟨g, 1, none⟩ = some (.int .i64 q.2) := by simp [World.cell?, hy]
  obtain ⟨r0, r1⟩ := set2d hx (.int .i64 q.1) (.int .i64 q.2)
  have bb := ((bb2.setCell (p := ⟨w.heap.size, 0, none⟩) (Nat.le_refl _) (.int .i64 q.1)).setCell (p := ⟨w.heap.size, 1, none⟩) (Nat.le_refl _) (.int .i64 q.2))
  clear hx hy bb2
  go_region_law (fail)
  all_goals
    go_wp2_with fail
    refine bodyPost_ret (by simp [results, Tryd.results44, go_sem, r0, r1]; try rfl) rfl ?_
    exact ⟨rfl, below_drewN bb 1⟩

theorem run_geq {P : Program} (t : TypeId) (a b : List UInt8) (w : World) : (binOp .geq t (.string (bs a)) (.string (bs b))).run P w = .ok (.bool (!ltL a b)) w := by
  simp only [binOp, Op.stringOp, bs_tl']
  rfl
theorem put_kept {w w' : World} {o : Obj} {b g m : Nat} {v : Value} {xs : List Value} (ho : w.ownsRow (g + 1) 75 2 v m xs) (hg : (w.alloc o).grownBy w' v.ownBlock) (hb : b < g) (hs : g < w.heap.size) :
    w'.heap[b]? = w.heap[b]? ∧ w'.heap[g]? = w.heap[g]? := by
  refine ⟨(hg.block b (by simp; omega) (fun e => by have := (ho.lt _ e.symm).1; omega)).trans (heap_alloc_old _ _ (by omega)), (hg.block g (by simp; omega) (fun e => by have := (ho.lt _ e.symm).1; omega)).trans (heap_alloc_old _ _ hs)⟩
theorem put_below {w w0 w' : World} {o : Obj} {B g m : Nat} {v : Value} {xs : List Value} (h : Below B w0 w) (ho : w.ownsRow (g + 1) 75 2 v m xs) (hg : (w.alloc o).grownBy w' v.ownBlock) (hb : B ≤ g) (hs : B ≤ w.heap.size) : Below B w0 w' :=
  (h.alloc hs o).grown hg (by simp; omega) (fun j hj => by have := (ho.lt j hj).1; omega)
theorem put_cell {l : List PF} {w w' : World} {ad : Addr} {m c i : Nat} {u : Value} (h : SliceIs w (.slice (some ad) m c) 2 (fcells l)) (b : Below w.heap.size w w') (hu : (fcells l)[i]? = some u) : w'.cell? (ad.add i) = some u := by
  obtain ⟨s', n', c', e1, _, _, _, g1⟩ := (h.below b).get
  cases e1
  obtain ⟨a, e, d⟩ := g1 _ _ hu
  cases e
  exact d
theorem set2_other {w : World} {b g : Nat} {o : Obj} (h : w.heap[b]? = some o) (hb : b ≠ g) (u v : Value) : ((w.setCell ⟨g, 0, none⟩ u).setCell ⟨g, 1, none⟩ v).heap[b]? = some o := by
  have hl := lt_of_block h
  have g1 := grownBy_trans (grownBy_set w g 0 u) (grownBy_set (w.setCell ⟨g, 0, none⟩ u) g 1 v)
  exact (g1.block b hl (fun e => hb (Option.some.inj e))).trans h
theorem set2_owns {w w' : World} {base g m : Nat} {v : Value} {xs : List Value} (h : w'.ownsRow base 75 2 v m xs) (ho : w.ownsRow (g + 1) 75 2 v m xs) (b : Below w.heap.size w w') (x y : Value) :
    ((w'.setCell ⟨g, 0, none⟩ x).setCell ⟨g, 1, none⟩ y).ownsRow base 75 2 v m xs := by
  have k1 : v.ownBlock ≠ some g := fun e => by have := (ho.lt g e).1; omega
  exact ownsRow_setCell_other (ownsRow_setCell_other h (a := ⟨g, 0, none⟩) k1 x) (a := ⟨g, 1, none⟩) k1 y
set_option maxRecDepth 100000 in
set_option maxHeartbeats 6400000 in
theorem putOf_ok (l : List PF) (v : Value) (n d : List UInt8) (w : World) (hl : SliceIs w v 2 (fcells l)) (hd : FOk l) (hf : FWF l) (hn : n.length ≤ 1000000000) (hdd : d.length ≤ 1000000000) :
    Calls Tryd.prog 44 #[v, .string (bs n), .string (bs d)] w fun e w' => ∃ r, e = .returned (.tuple #[r, rfv (flFault (fputL l n d))]) ∧ ((flFault (fputL l n d)).1 = 0 → w'.ownsRow w.heap.size 75 2 r (fputL l n d).length (fcells (fputL l n d))) ∧ ((flFault (fputL l n d)).1 ≠ 0 → r = .slice none 0 0) ∧ Below w.heap.size w w' := by
  have HB0 := Lib.hid (below_one w (.cells #[.int .i64 0, .int .i64 0] 85))
  have hfew := hf.few
  have HB4 := Lib.hid (show ∀ x ∈ l, x.n.length ≤ 1000000000 ∧ x.d.length ≤ 1000000000 from fun x hx => by obtain ⟨h1, h2⟩ := hf.each x hx; have := ((nameB_iff _).1 h1).2.1; omega)
  have FF := filesFault_any l v _ (hl.below HB0.out) HB4.out (by omega)
  have hz0 := heap_alloc_new w (.cells #[.int .i64 0, .int .i64 0] 85)
  have hf0 : flFault l = (0, -1) := lnFault_zero ((flFault_wf l).2 hf)
  rw [hf0, rfv_is] at FF
  simp only [] at FF
  have HPB := Lib.hid (show ∀ x ∈ fputL l n d, x.n.length ≤ 1000000000 ∧ x.d.length ≤ 1000000000 from fun x hx => by
    rcases mem_fputL _ _ _ _ hx with rfl | hx
    · exact ⟨hn, hdd⟩
    · exact HB4.out x hx)
  have HPL := Lib.hid (fputL_len l n d)
  have HFF := Lib.hid FF
  have HZ0 := Lib.hid hz0
  have HSL := Lib.hid hl
  obtain ⟨s, m, c, rfl, hm, h1, h2, hg⟩ := hl.get
  rw [fcells_len] at hm
  obtain rfl : m = l.length := by omega
  unfold maxLen at h2
  obtain ⟨i0, hi, hs0, hs1, hs2⟩ := info_parts infoFile
  clear FF hl hz0 hf hd hg HB4 hf0
  go_enter Tryd.func44, Tryd.ntmps44
  go_wp2_with fail
  refine HFF.out.mono ?_
  rintro e w1 ⟨rfl, b1⟩
  have hz1 := (b1.block w.heap.size (by simp)).trans HZ0.out
  have hlt1 : w.heap.size < w1.heap.size := lt_of_block hz1
  have bb1 := below_trans' HB0.out b1
  clear b1 HFF
  go_wp2_with fail
  have hy := heap_alloc_new w1 (.cells #[.int .i64 0, .int .i64 (-1)] 85)
  have hx := (heap_alloc_old w1 (.cells #[.int .i64 0, .int .i64 (-1)] 85) hlt1).trans hz1
  have bb2 := bb1.alloc bb1.size (.cells #[.int .i64 0, .int .i64 (-1)] 85)
  have hg2 : w1.heap.size + 1 = (w1.alloc (.cells #[.int .i64 0, .int .i64 (-1)] 85)).heap.size := by simp
  clear hz1 bb1
  trace_state
  generalize w1.alloc (.cells #[.int .i64 0, .int .i64 (-1)] 85) = w2 at *
  generalize w1.heap.size = g at *
  have BB := Lib.hid bb2
  clear bb2
  go_loopw [9, 10, 11] (fun o dn i wr => ∃ (k : Nat) (D : List PF) (b : Bool), i = .int .i64 k ∧ k ≤ l.length ∧ dn = .bool b ∧ D ++ putR b (l.drop k) n d = fputL l n d ∧ wr.ownsRow (g + 1) 75 2 o D.length (fcells D) ∧ wr.heap[w.heap.size]? = some (.cells #[.int .i64 0, .int .i64 0] 85 (0, 0)) ∧ wr.heap[g]? = some (.cells #[.int .i64 0, .int .i64 (-1)] 85 (0, 0)) ∧ Below w.heap.size w wr) (fun _ _ i _ => l.length - (intOf i).toNat)
  case atStart => exact ⟨0, [], false, rfl, by omega, rfl, rfl, World.ownsRow_nil _ _ _ _, hx, hy, BB.out⟩
  case round =>
    obtain ⟨k, D, b, rfl, hk, rfl, hinv, hown, hx, hy, bel⟩ := hrel
    have BW := Lib.hid bel
    have HO := Lib.hid hown
    have HX := Lib.hid hx
    have HY := Lib.hid hy
    have HI := Lib.hid hinv
    have hDl : D.length ≤ l.length + 1 := by have := congrArg List.length hinv; rw [List.length_append] at this; have := HPL.out; omega
    have HSG := Lib.hid (lt_of_block hy)
    have HG1 := Lib.hid (show w.heap.size < g from hlt1)
    clear hown hx hy bel hinv
    by_cases hlt : k < l.length
    · have hltI : (k : Int) < l.length := by omega
      obtain ⟨s0', n0', c0', e1, _, _, _, g1⟩ := (HSL.out.below BW.out).get
      cases e1
      obtain ⟨g2, g3⟩ := fcells_get l k hlt
      obtain ⟨ad, rfl, d0⟩ := g1 _ _ g2
      obtain ⟨a', e', d1⟩ := g1 _ _ g3
      cases e'
      have GG := Lib.hid (And.intro g2 g3)
      clear g1 g2 g3
      have x1 : (0 : Int) ≤ k := by omega
      have x2 : (k : Int).toNat = k := by omega
      have KK := Lib.hid (show k + 1 ≤ l.length from hlt)
      have P0 := Lib.hid (putR_old (n := n) (d := d) hlt)
      have P1 := Lib.hid (fun e => putR_eq (n := n) (d := d) hlt e)
      have P2 := Lib.hid (fun e => putR_lt (n := n) (d := d) hlt e)
      have P3 := Lib.hid (fun e => putR_gt (n := n) (d := d) hlt e)
      generalize l[k]'hlt = x at d0 d1 GG P0 P1 P2 P3
      have d1 := cell_at d1
      have HN1 : Hid (D.length + 1 ≤ maxLen) := by show _ ≤ _; unfold maxLen; omega
      have HN2 : Hid ((D.length + 1) * 32 ≤ 140737488355328) := by show _ ≤ _; omega
      obtain ⟨va, vc, rfl⟩ := owns_slice HO.out
      cases b with
      | true =>
        have Y := Lib.hid (show (D ++ [x]) ++ putR true (l.drop (k + 1)) n d = fputL l n d by rw [List.append_assoc, ← P0.out]; exact HI.out)
        clear P0 P1 P2 P3 GG
        go_wp2_with (at_builtin; refine wpList_append_is rfl (.tmp 48) (.tmp 53) 59 rfl (g + 1) 75 i0 _ 2 32 Tryd.underlying59 hi hs0 hs1 hs2 rfl (by decide) _ D.length _ rfl (HO.out.alloc _) _ 1 [.string (bs x.n), .string (bs x.d)] rfl (slice_one (heap_alloc_new _ _)) rfl (fun u hu => by simp at hu; rcases hu with rfl | rfl <;> rfl) HN1.out HN2.out (by have := HSG.out; simp; omega) ?_; intro v' w5 hown5 hgrow _; have HO5 := Lib.hid hown5; have HG5 := Lib.hid hgrow; clear hown5 hgrow)
        go_roundw
        case rel => exact ⟨k + 1, D ++ [x], true, by go_num, KK.out, rfl, Y.out, by rw [fcells_append, List.length_append]; exact HO5.out, (put_kept HO.out HG5.out HG1.out HSG.out).1.trans HX.out, (put_kept HO.out HG5.out HG1.out HSG.out).2.trans HY.out, put_below BW.out HO.out HG5.out (by have := HG1.out; omega) BW.out.size⟩
        case measure => simp [intOf]; omega
      | false =>
        rcases ltL_tri x.n n with hx | hx | hx
        · have hge : ∀ w, (binOp .geq 9 (.string (bs x.n)) (.string (bs n))).run Tryd.prog w = .ok (.bool false) w := fun w => by rw [run_geq, hx]; rfl
          have Y := Lib.hid (show (D ++ [x]) ++ putR false (l.drop (k + 1)) n d = fputL l n d by rw [List.append_assoc, ← P3.out hx]; exact HI.out)
          clear P0 P1 P2 P3 GG hx
          go_wp2_with (at_builtin; refine wpList_append_is rfl (.tmp 48) (.tmp 53) 59 rfl (g + 1) 75 i0 _ 2 32 Tryd.underlying59 hi hs0 hs1 hs2 rfl (by decide) _ D.length _ rfl (HO.out.alloc _) _ 1 [.string (bs x.n), .string (bs x.d)] rfl (slice_one (heap_alloc_new _ _)) rfl (fun u hu => by simp at hu; rcases hu with rfl | rfl <;> rfl) HN1.out HN2.out (by have := HSG.out; simp; omega) ?_; intro v' w5 hown5 hgrow _; have HO5 := Lib.hid hown5; have HG5 := Lib.hid hgrow; clear hown5 hgrow)
          go_roundw
          case rel => exact ⟨k + 1, D ++ [x], false, by go_num, KK.out, rfl, Y.out, by rw [fcells_append, List.length_append]; exact HO5.out, (put_kept HO.out HG5.out HG1.out HSG.out).1.trans HX.out, (put_kept HO.out HG5.out HG1.out HSG.out).2.trans HY.out, put_below BW.out HO.out HG5.out (by have := HG1.out; omega) BW.out.size⟩
          case measure => simp [intOf]; omega
        · have hge : ∀ w, (binOp .geq 9 (.string (bs x.n)) (.string (bs n))).run Tryd.prog w = .ok (.bool true) w := fun w => by rw [run_geq, hx, ltL_irrefl]; rfl
          have Y := Lib.hid (show (D ++ [⟨n, d⟩]) ++ putR true (l.drop (k + 1)) n d = fputL l n d by rw [List.append_assoc, ← P1.out hx]; exact HI.out)
          have hb : ((bs x.n).toList == (bs n).toList) = true := by rw [bs_tl', bs_tl']; simpa using hx
          clear P0 P1 P2 P3 hx
          go_wp2_with (at_builtin; refine wpList_append_is rfl (.tmp 35) (.tmp 39) 59 rfl (g + 1) 75 i0 _ 2 32 Tryd.underlying59 hi hs0 hs1 hs2 rfl (by decide) _ D.length _ rfl (HO.out.alloc _) _ 1 [.string (bs n), .string (bs d)] rfl (slice_one (f := ⟨n, d⟩) (heap_alloc_new _ _)) rfl (fun u hu => by simp at hu; rcases hu with rfl | rfl <;> rfl) HN1.out HN2.out (by have := HSG.out; simp; omega) ?_; intro v' w5 hown5 hgrow _; have HO5 := Lib.hid hown5; have HG5 := Lib.hid hgrow; have B5 := Lib.hid (put_below BW.out HO.out HG5.out (by have := HG1.out; omega) BW.out.size); have e0 := put_cell HSL.out B5.out GG.out.1; clear hown5 hgrow)
          go_roundw
          case rel => exact ⟨k + 1, D ++ [⟨n, d⟩], true, by go_num, KK.out, rfl, Y.out, by rw [fcells_append, List.length_append]; exact HO5.out, (put_kept HO.out HG5.out HG1.out HSG.out).1.trans HX.out, (put_kept HO.out HG5.out HG1.out HSG.out).2.trans HY.out, B5.out⟩
          case measure => simp [intOf]; omega
        · have hge : ∀ w, (binOp .geq 9 (.string (bs x.n)) (.string (bs n))).run Tryd.prog w = .ok (.bool true) w := fun w => by rw [run_geq, ltL_asymm hx]; rfl
          have Y := Lib.hid (show ((D ++ [⟨n, d⟩]) ++ [x]) ++ putR true (l.drop (k + 1)) n d = fputL l n d by rw [List.append_assoc, List.append_assoc, ← P2.out hx]; exact HI.out)
          have hb : ((bs x.n).toList == (bs n).toList) = false := by rw [bs_tl', bs_tl', beq_eq_false_iff_ne]; exact fun e => ltL_ne hx e.symm
          have HM1 : Hid (D.length + 1 + 1 ≤ maxLen) := by show _ ≤ _; unfold maxLen; omega
          have HM2 : Hid ((D.length + 1 + 1) * 32 ≤ 140737488355328) := by show _ ≤ _; omega
          clear P0 P1 P2 P3 hx
          go_wp2_with (first
            | (at_builtin; refine wpList_append_is rfl (.tmp 35) (.tmp 39) 59 rfl (g + 1) 75 i0 _ 2 32 Tryd.underlying59 hi hs0 hs1 hs2 rfl (by decide) _ D.length _ rfl (HO.out.alloc _) _ 1 [.string (bs n), .string (bs d)] rfl (slice_one (f := ⟨n, d⟩) (heap_alloc_new _ _)) rfl (fun u hu => by simp at hu; rcases hu with rfl | rfl <;> rfl) HN1.out HN2.out (by have := HSG.out; simp; omega) ?_; intro v' w5 hown5 hgrow _; have HO5 := Lib.hid hown5; have HG5 := Lib.hid hgrow; have B5 := Lib.hid (put_below BW.out HO.out HG5.out (by have := HG1.out; omega) BW.out.size); have K5 := Lib.hid (put_kept HO.out HG5.out HG1.out HSG.out); have HS5 := Lib.hid (lt_of_block (K5.out.2.trans HY.out)); have e0 := put_cell HSL.out B5.out GG.out.1; have e1 := cell_at (put_cell HSL.out B5.out GG.out.2); obtain ⟨va', vc', rfl⟩ := owns_slice hown5; clear hown5 hgrow)
            | (at_builtin; refine wpList_append_is rfl (.tmp 48) (.tmp 53) 59 rfl (g + 1) 75 i0 _ 2 32 Tryd.underlying59 hi hs0 hs1 hs2 rfl (by decide) _ (D.length + 1) _ rfl (HO5.out.alloc _) _ 1 [.string (bs x.n), .string (bs x.d)] rfl (slice_one (heap_alloc_new _ _)) rfl (fun u hu => by simp at hu; rcases hu with rfl | rfl <;> rfl) HM1.out HM2.out (by have := HS5.out; simp; omega) ?_; intro v' w6 hown6 hgrow _; have HO6 := Lib.hid hown6; have HG6 := Lib.hid hgrow; clear hown6 hgrow))
          go_roundw
          case rel => exact ⟨k + 1, (D ++ [⟨n, d⟩]) ++ [x], true, by go_num, KK.out, rfl, Y.out, by rw [fcells_append, fcells_append, List.length_append, List.length_append]; exact HO6.out, (put_kept HO5.out HG6.out HG1.out HS5.out).1.trans (K5.out.1.trans HX.out), (put_kept HO5.out HG6.out HG1.out HS5.out).2.trans (K5.out.2.trans HY.out), put_below B5.out HO5.out HG6.out (by have := HG1.out; omega) B5.out.size⟩
          case measure => simp [intOf]; omega
    · have hltI : ¬ (k : Int) < l.length := by omega
      obtain rfl : k = l.length := by omega
      cases b with
      | true =>
        have hD : D = fputL l n d := by have := HI.out; rw [putR_end_t, List.append_nil] at this; exact this
        subst hD
        obtain ⟨va, vc, rfl⟩ := owns_slice HO.out
        have O := HO
        have X5 := HX
        have Y5 := HY
        have B5 := BW
        clear HO HX HY BW HI
        generalize wr = w5 at *
        go_wp2_with fail
        clear HSL HZ0
        have CK := Lib.hid (filesFault_any (fputL l n d) _ w5 (SliceIs.ownedK O.out) HPB.out (by have := HPL.out; omega))
        rw [rfv_is] at CK
        obtain ⟨q, hq⟩ : ∃ q, flFault (fputL l n d) = q := ⟨_, rfl⟩
        rw [hq] at CK
        have HQ := Lib.hid hq
        clear hq
        refine CK.out.mono ?_
        rintro e w6 ⟨rfl, b6⟩
        have hx6 := (b6.block w.heap.size (lt_of_block X5.out)).trans X5.out
        have hy6 := (b6.block g (lt_of_block Y5.out)).trans Y5.out
        have bel6 := below_trans' B5.out b6
        have O6 := Lib.hid (owns_mono' (owns_below O.out b6) (show w.heap.size ≤ g + 1 by have := HG1.out; omega))
        have f0 : w6.frozen? ⟨g, 0, none⟩ = false := by simp [World.frozen?, hy6]
        have f1 : w6.frozen? ⟨g, 1, none⟩ = false := by simp [World.frozen?, hy6]
        have e0 : w6.cell? ⟨g, 0, none⟩ = some (.int .i64 0) := by simp [World.cell?, hy6]
        have e1 : w6.cell? ⟨g, 1, none⟩ = some (.int .i64 (-1)) := by simp [World.cell?, hy6]
        obtain ⟨r0, r1⟩ := set2 hy6 (.int .i64 q.1) (.int .i64 q.2)
        have xx : ((w6.setCell ⟨g, 0, none⟩ (.int .i64 q.1)).setCell ⟨g, 1, none⟩ (.int .i64 q.2)).heap[w.heap.size]? = some (.cells #[.int .i64 0, .int .i64 0] 85 (0, 0)) := (set2_other hx6 (by have := HG1.out; omega) _ _)
        have bb := (bel6.setCell (p := ⟨g, 0, none⟩) (by have := HG1.out; show w.heap.size ≤ g; omega) (.int .i64 q.1)).setCell (p := ⟨g, 1, none⟩) (by have := HG1.out; show w.heap.size ≤ g; omega) (.int .i64 q.2)
        have O7 := Lib.hid (set2_owns (base := w.heap.size) O6.out O.out b6 (.int .i64 q.1) (.int .i64 q.2))
        clear b6 hx6 hy6 bel6 CK
        have KB := Lib.hid (show (Value.slice va (fputL l n d).length vc).ownBlock ≠ some w.heap.size from fun e => by have := (O.out.lt _ e).1; have := HG1.out; omega)
        by_cases hq0 : q.1 = 0
        · have hqI : ¬ (0 : Int) < q.1 := by omega
          have HQ0 := Lib.hid hq0
          have HQQ := Lib.hid (show q = (0, -1) by rw [← HQ.out]; exact lnFault_zero (by have := HQ.out; unfold flFault at this; rw [this]; exact hq0))
          clear hq0
          go_wp2_with fail
          generalize (w6.setCell ⟨g, 0, none⟩ (.int .i64 q.1)).setCell ⟨g, 1, none⟩ (.int .i64 q.2) = w7 at *
          refine (rfine_any w7).mono ?_
          rintro e w8 ⟨rfl, b8⟩
          have hx8 := (b8.block w.heap.size (lt_of_block xx)).trans xx
          have bb8 := ((below_trans' bb b8).setCell (p := ⟨w.heap.size, 0, none⟩) (Nat.le_refl _) (.int .i64 0)).setCell (p := ⟨w.heap.size, 1, none⟩) (Nat.le_refl _) (.int .i64 (-1))
          have O8 := Lib.hid (ownsRow_setCell_other (ownsRow_setCell_other (owns_below O7.out b8) (a := ⟨w.heap.size, 0, none⟩) KB.out (.int .i64 0)) (a := ⟨w.heap.size, 1, none⟩) KB.out (.int .i64 (-1)))
          have f0 : w8.frozen? ⟨w.heap.size, 0, none⟩ = false := by simp [World.frozen?, hx8]
          have f1 : w8.frozen? ⟨w.heap.size, 1, none⟩ = false := by simp [World.frozen?, hx8]
          have e0 : w8.cell? ⟨w.heap.size, 0, none⟩ = some (.int .i64 0) := by simp [World.cell?, hx8]
          have e1 : w8.cell? ⟨w.heap.size, 1, none⟩ = some (.int .i64 0) := by simp [World.cell?, hx8]
          obtain ⟨r0, r1⟩ := set2 hx8 (.int .i64 0) (.int .i64 (-1))
          clear b8 hx8 xx bb
          go_wp2_with fail
          refine bodyPost_ret (by simp [results, Tryd.results44, go_sem, r0, r1]; try rfl) rfl ?_
          exact ⟨_, by rw [HQ.out, HQQ.out, rfv_is]; rfl, fun _ => O8.out, fun h => absurd (by rw [HQ.out]; exact HQ0.out) h, bb8⟩
        · have hqI : (0 : Int) < q.1 := by omega
          have HQ0 := Lib.hid hq0
          clear hq0
          go_wp2_with fail
          generalize (w6.setCell ⟨g, 0, none⟩ (.int .i64 q.1)).setCell ⟨g, 1, none⟩ (.int .i64 q.2) = w7 at *
          clear f0 f1 e0 e1
          have f0 : w7.frozen? ⟨w.heap.size, 0, none⟩ = false := by simp [World.frozen?, xx]
          have f1 : w7.frozen? ⟨w.heap.size, 1, none⟩ = false := by simp [World.frozen?, xx]
          have e0 : w7.cell? ⟨w.heap.size, 0, none⟩ = some (.int .i64 0) := by simp [World.cell?, xx]
          have e1 : w7.cell? ⟨w.heap.size, 1, none⟩ = some (.int .i64 0) := by simp [World.cell?, xx]
          obtain ⟨s0, s1⟩ := set2d xx (.int .i64 q.1) (.int .i64 q.2)
          have bb8 := ((bb.setCell (p := ⟨w.heap.size, 0, none⟩) (Nat.le_refl _) (.int .i64 q.1)).setCell (p := ⟨w.heap.size, 1, none⟩) (Nat.le_refl _) (.int .i64 q.2))
          clear xx bb
          go_region_law (fail)
          all_goals
            go_wp2_with fail
            refine bodyPost_ret (by simp [results, Tryd.results44, go_sem, s0, s1]; try rfl) rfl ?_
            exact ⟨_, by rw [HQ.out, rfv_is], fun h => absurd (by rw [HQ.out] at h; exact h) HQ0.out, fun _ => rfl, below_drewN bb8 1⟩
      | false =>
        have hD : D ++ [⟨n, d⟩] = fputL l n d := by have := HI.out; rw [putR_end_f] at this; exact this
        have HN1 : Hid (D.length + 1 ≤ maxLen) := by show _ ≤ _; unfold maxLen; omega
        have HN2 : Hid ((D.length + 1) * 32 ≤ 140737488355328) := by show _ ≤ _; omega
        obtain ⟨va, vc, rfl⟩ := owns_slice HO.out
        have HDD := Lib.hid hD
        clear hD HI
        go_wp2_with (at_builtin; refine wpList_append_is rfl (.tmp 57) (.tmp 61) 59 rfl (g + 1) 75 i0 _ 2 32 Tryd.underlying59 hi hs0 hs1 hs2 rfl (by decide) _ D.length _ rfl (HO.out.alloc _) _ 1 [.string (bs n), .string (bs d)] rfl (slice_one (f := ⟨n, d⟩) (heap_alloc_new _ _)) rfl (fun u hu => by simp at hu; rcases hu with rfl | rfl <;> rfl) HN1.out HN2.out (by have := HSG.out; simp; omega) ?_; intro v' w5 hown5 hgrow _; have hown5 : w5.ownsRow (g + 1) 75 2 v' (fputL l n d).length (fcells (fputL l n d)) := (by rw [← HDD.out, fcells_append, List.length_append]; exact hown5); have O := Lib.hid hown5; have B5 := Lib.hid (put_below BW.out HO.out hgrow (by have := HG1.out; omega) BW.out.size); have X5 := Lib.hid ((put_kept HO.out hgrow HG1.out HSG.out).1.trans HX.out); have Y5 := Lib.hid ((put_kept HO.out hgrow HG1.out HSG.out).2.trans HY.out); obtain ⟨va', vc', rfl⟩ := owns_slice hown5; clear hown5 hgrow)
        clear HSL HZ0
        have CK := Lib.hid (filesFault_any (fputL l n d) _ w5 (SliceIs.ownedK O.out) HPB.out (by have := HPL.out; omega))
        rw [rfv_is] at CK
        obtain ⟨q, hq⟩ : ∃ q, flFault (fputL l n d) = q := ⟨_, rfl⟩
        rw [hq] at CK
        have HQ := Lib.hid hq
        clear hq
        refine CK.out.mono ?_
        rintro e w6 ⟨rfl, b6⟩
        have hx6 := (b6.block w.heap.size (lt_of_block X5.out)).trans X5.out
        have hy6 := (b6.block g (lt_of_block Y5.out)).trans Y5.out
        have bel6 := below_trans' B5.out b6
        have O6 := Lib.hid (owns_mono' (owns_below O.out b6) (show w.heap.size ≤ g + 1 by have := HG1.out; omega))
        have f0 : w6.frozen? ⟨g, 0, none⟩ = false := by simp [World.frozen?, hy6]
        have f1 : w6.frozen? ⟨g, 1, none⟩ = false := by simp [World.frozen?, hy6]
        have e0 : w6.cell? ⟨g, 0, none⟩ = some (.int .i64 0) := by simp [World.cell?, hy6]
        have e1 : w6.cell? ⟨g, 1, none⟩ = some (.int .i64 (-1)) := by simp [World.cell?, hy6]
        obtain ⟨r0, r1⟩ := set2 hy6 (.int .i64 q.1) (.int .i64 q.2)
        have xx : ((w6.setCell ⟨g, 0, none⟩ (.int .i64 q.1)).setCell ⟨g, 1, none⟩ (.int .i64 q.2)).heap[w.heap.size]? = some (.cells #[.int .i64 0, .int .i64 0] 85 (0, 0)) := (set2_other hx6 (by have := HG1.out; omega) _ _)
        have bb := (bel6.setCell (p := ⟨g, 0, none⟩) (by have := HG1.out; show w.heap.size ≤ g; omega) (.int .i64 q.1)).setCell (p := ⟨g, 1, none⟩) (by have := HG1.out; show w.heap.size ≤ g; omega) (.int .i64 q.2)
        have O7 := Lib.hid (set2_owns (base := w.heap.size) O6.out O.out b6 (.int .i64 q.1) (.int .i64 q.2))
        clear b6 hx6 hy6 bel6 CK
        have KB := Lib.hid (show (Value.slice va' (fputL l n d).length vc').ownBlock ≠ some w.heap.size from fun e => by have := (O.out.lt _ e).1; have := HG1.out; omega)
        by_cases hq0 : q.1 = 0
        · have hqI : ¬ (0 : Int) < q.1 := by omega
          have HQ0 := Lib.hid hq0
          have HQQ := Lib.hid (show q = (0, -1) by rw [← HQ.out]; exact lnFault_zero (by have := HQ.out; unfold flFault at this; rw [this]; exact hq0))
          clear hq0
          go_wp2_with fail
          generalize (w6.setCell ⟨g, 0, none⟩ (.int .i64 q.1)).setCell ⟨g, 1, none⟩ (.int .i64 q.2) = w7 at *
          refine (rfine_any w7).mono ?_
          rintro e w8 ⟨rfl, b8⟩
          have hx8 := (b8.block w.heap.size (lt_of_block xx)).trans xx
          have bb8 := ((below_trans' bb b8).setCell (p := ⟨w.heap.size, 0, none⟩) (Nat.le_refl _) (.int .i64 0)).setCell (p := ⟨w.heap.size, 1, none⟩) (Nat.le_refl _) (.int .i64 (-1))
          have O8 := Lib.hid (ownsRow_setCell_other (ownsRow_setCell_other (owns_below O7.out b8) (a := ⟨w.heap.size, 0, none⟩) KB.out (.int .i64 0)) (a := ⟨w.heap.size, 1, none⟩) KB.out (.int .i64 (-1)))
          have f0 : w8.frozen? ⟨w.heap.size, 0, none⟩ = false := by simp [World.frozen?, hx8]
          have f1 : w8.frozen? ⟨w.heap.size, 1, none⟩ = false := by simp [World.frozen?, hx8]
          have e0 : w8.cell? ⟨w.heap.size, 0, none⟩ = some (.int .i64 0) := by simp [World.cell?, hx8]
          have e1 : w8.cell? ⟨w.heap.size, 1, none⟩ = some (.int .i64 0) := by simp [World.cell?, hx8]
          obtain ⟨r0, r1⟩ := set2 hx8 (.int .i64 0) (.int .i64 (-1))
          clear b8 hx8 xx bb
          go_wp2_with fail
          refine bodyPost_ret (by simp [results, Tryd.results44, go_sem, r0, r1]; try rfl) rfl ?_
          exact ⟨_, by rw [HQ.out, HQQ.out, rfv_is]; rfl, fun _ => O8.out, fun h => absurd (by rw [HQ.out]; exact HQ0.out) h, bb8⟩
        · have hqI : (0 : Int) < q.1 := by omega
          have HQ0 := Lib.hid hq0
          clear hq0
          go_wp2_with fail
          generalize (w6.setCell ⟨g, 0, none⟩ (.int .i64 q.1)).setCell ⟨g, 1, none⟩ (.int .i64 q.2) = w7 at *
          clear f0 f1 e0 e1
          have f0 : w7.frozen? ⟨w.heap.size, 0, none⟩ = false := by simp [World.frozen?, xx]
          have f1 : w7.frozen? ⟨w.heap.size, 1, none⟩ = false := by simp [World.frozen?, xx]
          have e0 : w7.cell? ⟨w.heap.size, 0, none⟩ = some (.int .i64 0) := by simp [World.cell?, xx]
          have e1 : w7.cell? ⟨w.heap.size, 1, none⟩ = some (.int .i64 0) := by simp [World.cell?, xx]
          obtain ⟨s0, s1⟩ := set2d xx (.int .i64 q.1) (.int .i64 q.2)
          have bb8 := ((bb.setCell (p := ⟨w.heap.size, 0, none⟩) (Nat.le_refl _) (.int .i64 q.1)).setCell (p := ⟨w.heap.size, 1, none⟩) (Nat.le_refl _) (.int .i64 q.2))
          clear xx bb
          go_region_law (fail)
          all_goals
            go_wp2_with fail
            refine bodyPost_ret (by simp [results, Tryd.results44, go_sem, s0, s1]; try rfl) rfl ?_
            exact ⟨_, by rw [HQ.out, rfv_is], fun h => absurd (by rw [HQ.out] at h; exact h) HQ0.out, fun _ => rfl, below_drewN bb8 1⟩
end Go.Proofs.YtapdfgnfblkncaaDoor
