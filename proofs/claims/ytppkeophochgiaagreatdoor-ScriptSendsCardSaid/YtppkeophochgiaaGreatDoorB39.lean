/- Texts of one proof, one behind the other: FrDec, Lit. -/
import Derived.Test.YtppkeophochgiaaGreatDoorB18
import Derived.Deep.RegionWith
import Derived.Deep.DeepCutAuto
import Derived.Test.YtppkeophochgiaaGreatDoorB04
/- Contract of frame.Decode. -/
namespace Go.Proofs.YtppkeophochgiaaGreatDoor
open Go.RowKit
set_option linter.unusedVariables false
attribute [local irreducible] frB frT frC lowL rdF decF
theorem zfr_val : zfr.val = .agg #[.int .u8 0, .int .i64 0, .int .i64 0, .string ⟨#[]⟩] := by unfold zfr PFr.val; rw [bs_nil]; rfl
theorem hgrown_fr {E : Nat → Addr} {w w' : World} {c b d : Nat} {l : List UInt8} (h : Has E w c) (R : RAt E w b l d) (g : w.grownBy w' (some b)) : Has E w' c := by
  have hne : gOf c ≠ b := by
    intro e
    have := R.cs.1
    unfold Has at h
    rw [e, this] at h
    unfold errv at h
    simp at h
  unfold Has at *
  exact g.cell h (by intro e; exact hne (Option.some.inj e))

theorem cells4 {v : World} {g : Nat} {x0 x1 x2 x3 : Value} {t : TypeId} (h : v.heap[g]? = some (.cells #[x0, x1, x2, x3] t (0, 0))) :
    (v.cell? ⟨g, 0, none⟩ = some x0 ∧ v.cell? ⟨g, 1, none⟩ = some x1 ∧ v.cell? ⟨g, 2, none⟩ = some x2 ∧ v.cell? ⟨g, 3, none⟩ = some x3) ∧ ∀ k, v.frozen? ⟨g, k, none⟩ = false := by
  refine ⟨⟨?_, ?_, ?_, ?_⟩, fun k => ?_⟩ <;> simp [World.cell?, World.frozen?, h]
theorem put4 {v : World} {g : Nat} {x0 x1 x2 x3 : Value} {t : TypeId} (h : v.heap[g]? = some (.cells #[x0, x1, x2, x3] t (0, 0))) (y0 y1 y2 y3 : Value) :
    ((((v.setCell ⟨g, 0, none⟩ y0).setCell ⟨g, 1, none⟩ y1).setCell ⟨g, 2, none⟩ y2).setCell ⟨g, 3, none⟩ y3).heap[g]? = some (.cells #[y0, y1, y2, y3] t (0, 0)) := by
  have h1 := set_at (k := 3) (u := y3) (set_at (k := 2) (u := y2) (set_at (k := 1) (u := y1) (set_at (k := 0) (u := y0) h)))
  simpa using h1
theorem below_put4 {B : Nat} {x v : World} {g : Nat} (h : Below B x v) (hg : B ≤ g) (y0 y1 y2 y3 : Value) : Below B x ((((v.setCell ⟨g, 0, none⟩ y0).setCell ⟨g, 1, none⟩ y1).setCell ⟨g, 2, none⟩ y2).setCell ⟨g, 3, none⟩ y3) :=
  (((h.setCell (p := ⟨g, 0, none⟩) hg y0).setCell (p := ⟨g, 1, none⟩) hg y1).setCell (p := ⟨g, 2, none⟩) hg y2).setCell (p := ⟨g, 3, none⟩) hg y3

/-- what is kept of the world while a frame is read -/
structure St (w : World) (b : Nat) (W : World) : Prop where
  bel : Below w.heap.size w W
  zero : W.heap[w.heap.size]? = some (.cells #[.int .u8 0, .int .i64 0, .int .i64 0, .string ⟨#[]⟩] 248 (0, 0))
  lt : b < W.heap.size
  base : w.heap.size < b
theorem St.alloc {w : World} {b : Nat} {W : World} (h : St w b W) (o : Obj) : St w b (W.alloc o) :=
  ⟨h.bel.alloc h.bel.size o, ((below_alloc' W o).block _ (lt_of_block h.zero)).trans h.zero, by have := h.lt; simp; omega, h.base⟩
theorem St.grown {w : World} {b : Nat} {W V : World} (h : St w b W) (g : W.grownBy V (some b)) : St w b V :=
  ⟨h.bel.grown g h.bel.size (fun k hk => by cases hk; exact Nat.le_of_lt h.base), (g.block _ (lt_of_block h.zero) (fun e => by have := h.base; have := Option.some.inj e; omega)).trans h.zero, Nat.lt_of_lt_of_le h.lt g.size, h.base⟩
theorem St.fresh {w : World} {b : Nat} {W V : World} {o : Obj} (h : St w b W) (g : (W.alloc o).grownBy V (some b)) : V.heap[W.heap.size]? = some o :=
  (g.block _ (by simp) (fun e => by have := h.lt; have := Option.some.inj e; omega)).trans (heap_alloc_new _ _)
theorem heap_put4 {v : World} {g k : Nat} (hk : k ≠ g) (y0 y1 y2 y3 : Value) : ((((v.setCell ⟨g, 0, none⟩ y0).setCell ⟨g, 1, none⟩ y1).setCell ⟨g, 2, none⟩ y2).setCell ⟨g, 3, none⟩ y3).heap[k]? = v.heap[k]? := by
  rw [Below.heap_setCell _ _ _ _ (by exact hk), Below.heap_setCell _ _ _ _ (by exact hk), Below.heap_setCell _ _ _ _ (by exact hk), Below.heap_setCell _ _ _ _ (by exact hk)]
theorem St.put {w : World} {b g : Nat} {W : World} (h : St w b W) (hg : b < g) (y0 y1 y2 y3 : Value) : St w b ((((W.setCell ⟨g, 0, none⟩ y0).setCell ⟨g, 1, none⟩ y1).setCell ⟨g, 2, none⟩ y2).setCell ⟨g, 3, none⟩ y3) :=
  ⟨below_put4 h.bel (by have := h.base; omega) y0 y1 y2 y3, (heap_put4 (by have := h.base; omega) y0 y1 y2 y3).trans h.zero, by rw [World.size_setCell, World.size_setCell, World.size_setCell, World.size_setCell]; exact h.lt, h.base⟩
theorem rat_put4 {E : Nat → Addr} {W : World} {b g c : Nat} {l : List UInt8} (h : RAt E W b l c) (hg : b < g) (y0 y1 y2 y3 : Value) : RAt E ((((W.setCell ⟨g, 0, none⟩ y0).setCell ⟨g, 1, none⟩ y1).setCell ⟨g, 2, none⟩ y2).setCell ⟨g, 3, none⟩ y3) b l c := by
  unfold RAt at h ⊢
  exact (heap_put4 (by omega) y0 y1 y2 y3).trans h
theorem Has.grown' {E : Nat → Addr} {w w' : World} {c b d : Nat} {l : List UInt8} (h : Has E w c) (R : RAt E w b l d) (g : w.grownBy w' (some b)) : Has E w' c := hgrown_fr h R g
theorem blk_kept {W V : World} {b g : Nat} {cs : Array Value} {t : TypeId} {fr : Nat × Nat} (h : W.grownBy V (some b)) (a : W.heap[g]? = some (.cells cs t fr)) (hlt : b < g) : V.heap[g]? = some (.cells cs t fr) :=
  (h.block g (lt_of_block a) (fun e => by have := Option.some.inj e; omega)).trans a
set_option maxRecDepth 100000 in
set_option maxHeartbeats 25600000 in
theorem fdec_any (E : Nat → Addr) (s : ByteArray) (w : World) (hs : s.size ≤ 100000) (h1 : Has E w 1) (h2 : Has E w 2) (h4 : Has E w 4) (h10 : Has E w 10) :
    Calls Tryz.prog 193 #[.string s] w fun e w' => e = .returned (.tuple #[(decF s.data.toList).1.val, ev E (decF s.data.toList).2]) ∧ Below w.heap.size w w' := by
  have hsl : s.data.toList.length = s.size := by simp
  have EXT : ∀ i k e, e = i + k → s.extract i e = bs ((s.data.toList.drop i).take k) := fun i k e h => by
    apply eq_bs; subst h; simp
  have HZV := Lib.hid zfr_val
  have b0 := below_alloc' w (.cells #[.int .u8 0, .int .i64 0, .int .i64 0, .string ⟨#[]⟩] 248)
  have c1 : w.cell? ⟨1, 0, none⟩ = some (errv (E 1)) := h1
  have c10 : w.cell? ⟨9, 0, none⟩ = some (errv (E 10)) := h10
  have z1 : 1 < w.heap.size := World.block_lt_of_cell? w _ c1
  have z10 : 9 < w.heap.size := World.block_lt_of_cell? w _ c10
  unfold errv at c1 c10
  have HEV := Lib.hid (fun (c : Nat) (h : c ≠ 0) => ev_pos E h)
  have H1 := Lib.hid h1
  have H2 := Lib.hid h2
  have H4 := Lib.hid h4
  have H10 := Lib.hid h10
  have B0 := Lib.hid b0
  clear h1 h2 h4 h10 b0
  by_cases h4' : s.size < 4
  · have h4I : (s.size : Int) < 4 := by omega
    have HD := Lib.hid (decF_short (L := s.data.toList) (by rw [hsl]; exact h4'))
    clear EXT hsl
    go_enter Tryz.func193, Tryz.ntmps193
    go_wp2_with fail
    go_region_with (fail)
    all_goals
      go_wp2_with fail
      go_returns
      exact ⟨by rw [HD.out, HZV.out, HEV.out 1 (by decide)], B0.out.drew⟩
  · have h4I : ¬ (s.size : Int) < 4 := by omega
    obtain ⟨m, hm⟩ : ∃ m, s.size = m + 4 := ⟨s.size - 4, by omega⟩
    have hmI : (s.size : Int) - 4 = m := by omega
    have hLm : s.data.toList.length - 4 = m := by rw [hsl]; omega
    have hx1 : s.extract 0 m = bs (s.data.toList.take m) := by rw [EXT 0 m m (by omega)]; simp
    have hx2 : s.extract m s.size = bs (s.data.toList.drop m) := by rw [EXT m 4 s.size (by omega), List.take_of_length_le (by rw [List.length_drop, hsl]; omega)]
    have SU := Lib.hid (fun w' => sum_any (bs (s.data.toList.take m)) w' (by rw [bs_size, List.length_take, hsl]; omega))
    rw [bs_list] at SU
    have LW := Lib.hid (fun w' => low_any (csum (s.data.toList.take m)) w' (csum_lt _))
    have D10 := Lib.hid (decF_sum (L := s.data.toList) (by rw [hsl]; exact h4'))
    have D4 := Lib.hid (decF_none (L := s.data.toList))
    rw [hLm] at D10 D4
    have y1 : (0 : Int) ≤ m := by omega
    have y2 : (m : Int) ≤ s.size := by omega
    have y3 : (m : Int).toNat = m := by omega
    have hz0 : (w.alloc (.cells #[.int .u8 0, .int .i64 0, .int .i64 0, .string ⟨#[]⟩] 248)).heap[w.heap.size]? = some (.cells #[.int .u8 0, .int .i64 0, .int .i64 0, .string ⟨#[]⟩] 248 (0, 0)) := heap_alloc_new _ _
    have HZ := Lib.hid hz0
    clear hz0
    have HMM := Lib.hid hm
    have HEXT := Lib.hid EXT
    clear hm EXT
    by_cases hsum : lowL (csum (s.data.toList.take m)) = s.data.toList.drop m
    · have hcmp : ((bs (lowL (csum (s.data.toList.take m)))).toList == (bs (s.data.toList.drop m)).toList) = true := by rw [hsum]; simp
      by_cases hm0 : m = 0
      · have hmb : ((m : Int) == 0) = true := by rw [beq_iff_eq]; omega
        have HD := Lib.hid (D4.out (by rw [hsl, HMM.out, hm0]) hsum)
        clear D4 D10 hsum hm0
        go_enter Tryz.func193, Tryz.ntmps193
        go_wp2_with fail
        go_region_with (first | (go_at_call 121; refine (SU.out _).mono ?_; rintro e' w7 ⟨rfl, rfl⟩) | (go_at_call 218; refine (LW.out _).mono ?_; rintro e' w8 ⟨rfl, b8⟩))
        all_goals
          have b8 := (show Below (w.alloc (.cells #[.int .u8 0, .int .i64 0, .int .i64 0, .string ⟨#[]⟩] 248)).heap.size (w.alloc (.cells #[.int .u8 0, .int .i64 0, .int .i64 0, .string ⟨#[]⟩] 248)) w8 from ⟨b8.os, b8.tape, b8.output, b8.size, b8.block⟩)
          have bel := below_trans' B0.out b8
          have hz8 := (b8.block w.heap.size (lt_of_block HZ.out)).trans HZ.out
          clear b8
          have cc : w8.cell? ⟨1, 0, none⟩ = some (errv (E 1)) := H1.out.below bel
          unfold errv at cc
          obtain ⟨⟨q0, q1, q2, q3⟩, fz⟩ := cells4 hz8
          have f0 := fz 0
          have f1 := fz 1
          have f2 := fz 2
          have f3 := fz 3
          have hp := put4 hz8 (.int .u8 0) (.int .i64 0) (.int .i64 0) (.string ⟨#[]⟩)
          have bb := below_put4 bel (Nat.le_refl w.heap.size) (.int .u8 0) (.int .i64 0) (.int .i64 0) (.string ⟨#[]⟩)
          clear fz hz8 bel
          go_wp2_with fail
          go_region_with (fail)
          all_goals
            go_wp2_with fail
            have bb := bb.drew
            have hp := (show ((((w8.setCell ⟨w.heap.size, 0, none⟩ (.int .u8 0)).setCell ⟨w.heap.size, 1, none⟩ (.int .i64 0)).setCell ⟨w.heap.size, 2, none⟩ (.int .i64 0)).setCell ⟨w.heap.size, 3, none⟩ (.string ⟨#[]⟩)).drew.heap[w.heap.size]? = _ from hp)
            generalize ((((w8.setCell ⟨w.heap.size, 0, none⟩ (.int .u8 0)).setCell ⟨w.heap.size, 1, none⟩ (.int .i64 0)).setCell ⟨w.heap.size, 2, none⟩ (.int .i64 0)).setCell ⟨w.heap.size, 3, none⟩ (.string ⟨#[]⟩)).drew = w9 at hp bb ⊢
            obtain ⟨⟨r0, r1, r2, r3⟩, _⟩ := cells4 hp
            (try simp only [Exit.inBlock, Exit.then])
            refine bodyPost_ret (by simp [results, Tryz.results193, go_sem, r0, r1, r2, r3]; try rfl) rfl ?_
            exact ⟨by rw [HD.out, HZV.out, HEV.out 1 (by decide)], bb⟩
      · have hmb : ((m : Int) == 0) = false := by rw [beq_eq_false_iff_ne]; omega
        have hsp : 0 < s.size := by have := HMM.out; omega
        have y4 : (1 : Int) ≤ m := by omega
        have hb : s.data.toList.take m = s[0] :: (s.data.toList.drop 1).take (m - 1) := by
          have h0 : s.data.toList = s[0] :: s.data.toList.drop 1 := by
            have := List.drop_eq_getElem_cons (l := s.data.toList) (i := 0) (by rw [hsl]; exact hsp)
            rw [List.drop_zero] at this
            exact this
          obtain ⟨m', rfl⟩ : ∃ m', m = m' + 1 := ⟨m - 1, by omega⟩
          conv => lhs; rw [h0]
          rw [List.take_succ_cons, Nat.add_sub_cancel]
        have hx3 : s.extract 1 m = bs ((s.data.toList.drop 1).take (m - 1)) := HEXT.out 1 (m - 1) m (by omega)
        have hll : ((s.data.toList.drop 1).take (m - 1)).length ≤ 100000 := by rw [List.length_take, List.length_drop, hsl]; omega
        have hsum' : lowL (csum (s.data.toList.take (s.data.toList.length - 4))) = s.data.toList.drop (s.data.toList.length - 4) := by rw [hLm]; exact hsum
        have hb' : s.data.toList.take (s.data.toList.length - 4) = s[0] :: (s.data.toList.drop 1).take (m - 1) := by rw [hLm]; exact hb
        have hn4 : ¬ s.data.toList.length < 4 := by rw [hsl]; exact h4'
        have DE := Lib.hid (fun (f : PFr) (c : Nat) hr hc => decF_end (f := f) (c := c) hn4 hsum' hb' hr hc)
        have DB := Lib.hid (fun (f : PFr) (c : Nat) hr hc hf => decF_bad (f := f) (c := c) hn4 hsum' hb' hr hc hf)
        have DF := Lib.hid (fun (f : PFr) (c : Nat) hr hc hf => decF_fine (f := f) (c := c) hn4 hsum' hb' hr hc hf)
        generalize (s.data.toList.drop 1).take (m - 1) = l at hx3 hll DE DB DF
        clear hsum' hb' hn4 hb D4 D10
        obtain ⟨l1, e1⟩ : ∃ x, rnR l 0 = x := ⟨_, rfl⟩
        obtain ⟨d1, e2⟩ : ∃ x, rnC l 0 = x := ⟨_, rfl⟩
        obtain ⟨l2, e3⟩ : ∃ x, rnR l1 d1 = x := ⟨_, rfl⟩
        obtain ⟨d2, e4⟩ : ∃ x, rnC l1 d1 = x := ⟨_, rfl⟩
        obtain ⟨l3, e5⟩ : ∃ x, rtR l2 d2 = x := ⟨_, rfl⟩
        obtain ⟨d3, e6⟩ : ∃ x, rtC l2 d2 = x := ⟨_, rfl⟩
        have hr := rdF_is s[0] e1 e2 e3 e4 e5 e6
        have hl1 := rnR_len l 0
        have hl2 := rnR_len l1 d1
        rw [e1] at hl1
        rw [e3] at hl2
        have P1 := Lib.hid (fun b (w : World) h => rnum_any E b l 0 w (by omega) h)
        have P2 := Lib.hid (fun b (w : World) h => rnum_any E b l1 d1 w (by omega) h)
        have P3 := Lib.hid (fun b (w : World) h => rtext_any E b l2 d2 w (by omega) h)
        rw [e1, e2] at P1
        rw [e3, e4] at P2
        rw [e5, e6] at P3
        have HR := Lib.hid hr
        generalize rnN l 0 = fe at *
        generalize rnN l1 d1 = fq at *
        generalize rtT l2 d2 = fd at *
        clear e1 e2 e3 e4 e5 e6 hr hsum hl1 hl2 hm0
        go_enter Tryz.func193, Tryz.ntmps193
        go_wp2_with fail
        go_region_with (first | (go_at_call 121; refine (SU.out _).mono ?_; rintro e' w7 ⟨rfl, rfl⟩) | (go_at_call 218; refine (LW.out _).mono ?_; rintro e' w8 ⟨rfl, b8⟩))
        all_goals
          have b8 := (show Below (w.alloc (.cells #[.int .u8 0, .int .i64 0, .int .i64 0, .string ⟨#[]⟩] 248)).heap.size (w.alloc (.cells #[.int .u8 0, .int .i64 0, .int .i64 0, .string ⟨#[]⟩] 248)) w8 from ⟨b8.os, b8.tape, b8.output, b8.size, b8.block⟩)
          have bel := below_trans' B0.out b8
          have hz8 := (b8.block w.heap.size (lt_of_block HZ.out)).trans HZ.out
          clear b8
          have R9 : RAt E (w8.alloc (.cells #[.string (bs l), .nilIface] 304)) w8.heap.size l 0 := by unfold RAt; rw [ev_zero]; exact heap_alloc_new _ _
          have bel9 := bel.alloc bel.size (.cells #[.string (bs l), .nilIface] 304)
          have hz9 := ((below_alloc' w8 (.cells #[.string (bs l), .nilIface] 304)).block w.heap.size (lt_of_block hz8)).trans hz8
          have hbR := lt_of_block hz8
          go_wp2_with fail
          generalize w8.alloc (.cells #[.string (bs l), .nilIface] 304) = w9 at *
          generalize w8.heap.size = b at *
          have hb9 := R9.lt
          have HT9 := H1.out.below bel9.drew
          have HB9 := H2.out.below bel9.drew
          have R9' := (show RAt E w9.drew b l 0 from R9)
          clear bel hz8
          have S9 : St w b w9.drew := ⟨bel9.drew, hz9, hb9, hbR⟩
          go_cut [6] (fun x wz => ∃ g, x = .pointer (some ⟨g, 0, none⟩) ∧ wz.heap[g]? = some (.cells #[.int .u8 s[0].toNat, .int .i64 fe, .int .i64 fq, .string (bs fd)] 248 (0, 0)) ∧ b < g ∧ St w b wz ∧ RAt E wz b l3 d3)
          case first =>
            go_region_law (first
              | (go_simp; go_at_call 219; refine (P2.out _ _ ?_ ?_ ?_).mono ?_; (first | exact R1 | exact RAt.below R1 (below_alloc' _ _)); (first | exact HT1 | exact Has.below HT1 (below_alloc' _ _)); (first | exact HB1 | exact Has.below HB1 (below_alloc' _ _)); rintro e' v2 ⟨rfl, R2, g2⟩; have HT2 := Has.grown' (by first | exact HT1 | exact Has.below HT1 (below_alloc' _ _)) (by first | exact R1 | exact RAt.below R1 (below_alloc' _ _)) g2; have HB2 := Has.grown' (by first | exact HB1 | exact Has.below HB1 (below_alloc' _ _)) (by first | exact R1 | exact RAt.below R1 (below_alloc' _ _)) g2; have S2 := St.grown (by first | exact S1 | exact St.alloc S1 _) g2; (try (have A22 := St.fresh S1 g2)); (try (have A12 := blk_kept g2 A11 S9.lt)))
              | (go_simp; go_at_call 219; refine (P1.out _ _ ?_ ?_ ?_).mono ?_; (first | exact R9' | exact RAt.below R9' (below_alloc' _ _)); (first | exact HT9 | exact Has.below HT9 (below_alloc' _ _)); (first | exact HB9 | exact Has.below HB9 (below_alloc' _ _)); rintro e' v1 ⟨rfl, R1, g1⟩; have HT1 := Has.grown' (by first | exact HT9 | exact Has.below HT9 (below_alloc' _ _)) (by first | exact R9' | exact RAt.below R9' (below_alloc' _ _)) g1; have HB1 := Has.grown' (by first | exact HB9 | exact Has.below HB9 (below_alloc' _ _)) (by first | exact R9' | exact RAt.below R9' (below_alloc' _ _)) g1; have S1 := St.grown (by first | exact S9 | exact St.alloc S9 _) g1; (try (have A11 : v1.heap[w9.heap.size]? = _ := (g1.block w9.heap.size (by simp) (fun e => by have := Option.some.inj e; omega)).trans (heap_alloc_new w9 _))))
              | (go_simp; go_at_call 220; refine (P3.out _ _ ?_ ?_ ?_).mono ?_; (first | exact R2 | exact RAt.below R2 (below_alloc' _ _)); (first | exact HT2 | exact Has.below HT2 (below_alloc' _ _)); (first | exact HB2 | exact Has.below HB2 (below_alloc' _ _)); rintro e' v3 ⟨rfl, R3, g3⟩; have S3 := St.grown (by first | exact S2 | exact St.alloc S2 _) g3; (try (have A33 := St.fresh S2 g3)); (try (have A13 := blk_kept g3 A12 S9.lt)); (try (have A23 := blk_kept g3 A22 S1.lt)); (try (have k0 := (cells4 A13).1.1)); (try (have k1 := (cells4 A13).1.2.1)); (try (have k2 := (cells4 A13).1.2.2.1)); (try (have k3 := (cells4 A13).1.2.2.2)); (try (have kf0 := (cells4 A13).2 0)); (try (have kf1 := (cells4 A13).2 1)); (try (have kf2 := (cells4 A13).2 2)); (try (have kf3 := (cells4 A13).2 3)); (try (have k0 := (cells4 A23).1.1)); (try (have k1 := (cells4 A23).1.2.1)); (try (have k2 := (cells4 A23).1.2.2.1)); (try (have k3 := (cells4 A23).1.2.2.2)); (try (have kf0 := (cells4 A23).2 0)); (try (have kf1 := (cells4 A23).2 1)); (try (have kf2 := (cells4 A23).2 2)); (try (have kf3 := (cells4 A23).2 3)); (try (have k0 := (cells4 A33).1.1)); (try (have k1 := (cells4 A33).1.2.1)); (try (have k2 := (cells4 A33).1.2.2.1)); (try (have k3 := (cells4 A33).1.2.2.2)); (try (have kf0 := (cells4 A33).2 0)); (try (have kf1 := (cells4 A33).2 1)); (try (have kf2 := (cells4 A33).2 2)); (try (have kf3 := (cells4 A33).2 3))))
            all_goals
              go_wp2_with fail
              go_meet
              first
              | (have h := A33; exact ⟨_, rfl, put4 h _ _ _ _, S2.lt, S3.put S2.lt _ _ _ _, rat_put4 R3 S2.lt _ _ _ _⟩)
              | (have h := A23; exact ⟨_, rfl, put4 h _ _ _ _, S1.lt, S3.put S1.lt _ _ _ _, rat_put4 R3 S1.lt _ _ _ _⟩)
              | (have h := A13; exact ⟨_, rfl, put4 h _ _ _ _, hb9, S3.put hb9 _ _ _ _, rat_put4 R3 hb9 _ _ _ _⟩)
              | exact ⟨_, rfl, heap_alloc_new _ _, S3.lt, S3.alloc _, RAt.below R3 (below_alloc' _ _)⟩
          case rest =>
            obtain ⟨g, rfl, hg, hbg, SC, RC⟩ := hcut
            have EN := rend_any E b l3 d3 wc RC (H1.out.below SC.bel)
            by_cases he : rEnd l3 d3 = 0
            · rw [he, ev_zero] at EN
              have HEN := Lib.hid EN
              have HRR := Lib.hid (HR.out.trans (by rw [he]))
              have CKF := Lib.hid (fun (w' : World) h2 h4 => fcheck_any E ⟨s[0], fe, fq, fd⟩ w' h2 h4)
              simp only [PFr.val_is] at CKF
              clear EN he
              go_wp2_with fail
              refine HEN.out.mono ?_
              rintro e' w4 ⟨rfl, R4, g4⟩
              have S4 := SC.grown g4
              have hg4 := blk_kept g4 hg hbg
              obtain ⟨⟨k0, k1, k2, k3⟩, _⟩ := cells4 hg4
              clear SC RC hg g4
              go_wp2_with fail
              refine (CKF.out w4 (H2.out.below S4.bel) (H4.out.below S4.bel)).mono ?_
              rintro e' w5 ⟨rfl, b5⟩
              have S5 : St w b w5 := ⟨below_trans' S4.bel b5, (b5.block _ (lt_of_block S4.zero)).trans S4.zero, Nat.lt_of_lt_of_le S4.lt b5.size, S4.base⟩
              have hg5 := (b5.block g (lt_of_block hg4)).trans hg4
              clear S4 hg4 k0 k1 k2 k3 b5
              obtain ⟨⟨k0, k1, k2, k3⟩, _⟩ := cells4 hg5
              by_cases hf : frC ⟨s[0], fe, fq, fd⟩ = 0
              · have HD := Lib.hid (DF.out _ _ HRR.out rfl hf)
                rw [hf, ev_zero]
                clear hf
                obtain ⟨⟨q0, q1, q2, q3⟩, fz⟩ := cells4 S5.zero
                have f0 := fz 0
                have f1 := fz 1
                have f2 := fz 2
                have f3 := fz 3
                have hp := put4 S5.zero (.int .u8 s[0].toNat) (.int .i64 fe) (.int .i64 fq) (.string (bs fd))
                have bb := below_put4 S5.bel (Nat.le_refl w.heap.size) (.int .u8 s[0].toNat) (.int .i64 fe) (.int .i64 fq) (.string (bs fd))
                clear fz
                go_wp2_with fail
                generalize (((w5.setCell ⟨w.heap.size, 0, none⟩ (.int .u8 s[0].toNat)).setCell ⟨w.heap.size, 1, none⟩ (.int .i64 fe)).setCell ⟨w.heap.size, 2, none⟩ (.int .i64 fq)).setCell ⟨w.heap.size, 3, none⟩ (.string (bs fd)) = w9' at hp bb ⊢
                obtain ⟨⟨r0, r1, r2, r3⟩, _⟩ := cells4 hp
                (try simp only [Exit.inBlock, Exit.then])
                refine bodyPost_ret (by simp [results, Tryz.results193, go_sem, r0, r1, r2, r3]; try rfl) rfl ?_
                exact ⟨by rw [HD.out, PFr.val_is, ev_zero], bb⟩
              · have HD := Lib.hid (DB.out _ _ HRR.out rfl hf)
                rw [HEV.out _ hf]
                have HEF := Lib.hid (HEV.out _ hf)
                clear hf
                obtain ⟨⟨q0, q1, q2, q3⟩, fz⟩ := cells4 S5.zero
                have f0 := fz 0
                have f1 := fz 1
                have f2 := fz 2
                have f3 := fz 3
                have hp := put4 S5.zero (.int .u8 0) (.int .i64 0) (.int .i64 0) (.string ⟨#[]⟩)
                have bb := below_put4 S5.bel (Nat.le_refl w.heap.size) (.int .u8 0) (.int .i64 0) (.int .i64 0) (.string ⟨#[]⟩)
                clear fz
                go_wp2_with fail
                generalize (((w5.setCell ⟨w.heap.size, 0, none⟩ (.int .u8 0)).setCell ⟨w.heap.size, 1, none⟩ (.int .i64 0)).setCell ⟨w.heap.size, 2, none⟩ (.int .i64 0)).setCell ⟨w.heap.size, 3, none⟩ (.string ⟨#[]⟩) = w9' at hp bb ⊢
                obtain ⟨⟨r0, r1, r2, r3⟩, _⟩ := cells4 hp
                (try simp only [Exit.inBlock, Exit.then])
                refine bodyPost_ret (by simp [results, Tryz.results193, go_sem, r0, r1, r2, r3]; try rfl) rfl ?_
                exact ⟨by rw [HD.out, HZV.out, HEF.out], bb⟩
            · have HD := Lib.hid (DE.out _ _ HR.out he)
              have HEE := Lib.hid (HEV.out _ he)
              rw [HEV.out _ he] at EN
              have HEN := Lib.hid EN
              clear EN he
              go_wp2_with fail
              refine HEN.out.mono ?_
              rintro e' w4 ⟨rfl, R4, g4⟩
              have S4 := SC.grown g4
              clear SC RC g4
              obtain ⟨⟨q0, q1, q2, q3⟩, fz⟩ := cells4 S4.zero
              have f0 := fz 0
              have f1 := fz 1
              have f2 := fz 2
              have f3 := fz 3
              have hp := put4 S4.zero (.int .u8 0) (.int .i64 0) (.int .i64 0) (.string ⟨#[]⟩)
              have bb := below_put4 S4.bel (Nat.le_refl w.heap.size) (.int .u8 0) (.int .i64 0) (.int .i64 0) (.string ⟨#[]⟩)
              clear fz
              go_wp2_with fail
              generalize (((w4.setCell ⟨w.heap.size, 0, none⟩ (.int .u8 0)).setCell ⟨w.heap.size, 1, none⟩ (.int .i64 0)).setCell ⟨w.heap.size, 2, none⟩ (.int .i64 0)).setCell ⟨w.heap.size, 3, none⟩ (.string ⟨#[]⟩) = w9' at hp bb ⊢
              obtain ⟨⟨r0, r1, r2, r3⟩, _⟩ := cells4 hp
              (try simp only [Exit.inBlock, Exit.then])
              refine bodyPost_ret (by simp [results, Tryz.results193, go_sem, r0, r1, r2, r3]; try rfl) rfl ?_
              exact ⟨by rw [HD.out, HZV.out, HEE.out], bb⟩
    · have hcmp : ((bs (lowL (csum (s.data.toList.take m)))).toList == (bs (s.data.toList.drop m)).toList) = false := by simp [ByteArray.toList_eq, hsum]
      have HD := Lib.hid (D10.out hsum)
      clear D4 D10 hsum
      go_enter Tryz.func193, Tryz.ntmps193
      go_wp2_with fail
      go_region_with (first | (go_at_call 121; refine (SU.out _).mono ?_; rintro e' w7 ⟨rfl, rfl⟩) | (go_at_call 218; refine (LW.out _).mono ?_; rintro e' w8 ⟨rfl, b8⟩))
      all_goals
        have b8 := (show Below (w.alloc (.cells #[.int .u8 0, .int .i64 0, .int .i64 0, .string ⟨#[]⟩] 248)).heap.size (w.alloc (.cells #[.int .u8 0, .int .i64 0, .int .i64 0, .string ⟨#[]⟩] 248)) w8 from ⟨b8.os, b8.tape, b8.output, b8.size, b8.block⟩)
        have bel := below_trans' B0.out b8
        have hz8 := (b8.block w.heap.size (lt_of_block HZ.out)).trans HZ.out
        clear b8
        have cc : w8.cell? ⟨9, 0, none⟩ = some (errv (E 10)) := H10.out.below bel
        unfold errv at cc
        obtain ⟨⟨q0, q1, q2, q3⟩, fz⟩ := cells4 hz8
        have f0 := fz 0
        have f1 := fz 1
        have f2 := fz 2
        have f3 := fz 3
        have hp := put4 hz8 (.int .u8 0) (.int .i64 0) (.int .i64 0) (.string ⟨#[]⟩)
        have bb := below_put4 bel (Nat.le_refl w.heap.size) (.int .u8 0) (.int .i64 0) (.int .i64 0) (.string ⟨#[]⟩)
        clear fz hz8 bel
        go_wp2_with fail
        go_region_with (fail)
        all_goals
          go_wp2_with fail
          have bb := bb.drew
          have hp := (show ((((w8.setCell ⟨w.heap.size, 0, none⟩ (.int .u8 0)).setCell ⟨w.heap.size, 1, none⟩ (.int .i64 0)).setCell ⟨w.heap.size, 2, none⟩ (.int .i64 0)).setCell ⟨w.heap.size, 3, none⟩ (.string ⟨#[]⟩)).drew.heap[w.heap.size]? = _ from hp)
          generalize ((((w8.setCell ⟨w.heap.size, 0, none⟩ (.int .u8 0)).setCell ⟨w.heap.size, 1, none⟩ (.int .i64 0)).setCell ⟨w.heap.size, 2, none⟩ (.int .i64 0)).setCell ⟨w.heap.size, 3, none⟩ (.string ⟨#[]⟩)).drew = w9 at hp bb ⊢
          obtain ⟨⟨r0, r1, r2, r3⟩, _⟩ := cells4 hp
          (try simp only [Exit.inBlock, Exit.then])
          refine bodyPost_ret (by simp [results, Tryz.results193, go_sem, r0, r1, r2, r3]; try rfl) rfl ?_
          exact ⟨by rw [HD.out, HZV.out, HEV.out 10 (by decide)], bb⟩
end Go.Proofs.YtppkeophochgiaaGreatDoor
/- A slice literal as a slice. -/
namespace Go.Proofs.YtppkeophochgiaaGreatDoor
open Go.RowKit
theorem lit_slice {w : World} {b n : Nat} {cs : Array Value} {t : TypeId} {vals : List Value} (k : Nat) (h : w.heap[b]? = some (.cells cs t (0, 0))) (hc : cs.toList = vals) (hn : vals.length = n * k) (hm : n ≤ 1000000) : SliceIs w (.slice (some ⟨b, 0, none⟩) n n) k vals := by
  refine .inr ⟨⟨b, 0, none⟩, n, n, rfl, Nat.le_refl _, by unfold maxLen; omega, hn, fun i u hu => ?_⟩
  subst hc
  have : w.cell? ⟨b, i, none⟩ = some u := by simp only [World.cell?, h]; simpa using hu
  have e : (⟨b, 0, none⟩ : Addr).add i = ⟨b, i, none⟩ := by simp [Addr.add]; omega
  rw [e]; exact this
end Go.Proofs.YtppkeophochgiaaGreatDoor
