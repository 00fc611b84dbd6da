/- The document's LinesFault. -/
import Derived.Test.YtapdfgnfblkncaaGreatDoorFilChk2
import Derived.Test.YtapdfgnfblkncaaGreatDoorRefName
import Derived.Test.YtapdfgnfblkncaaGreatDoorRefFlt
namespace Go.Proofs.YtapdfgnfblkncaaGreatDoor
open Go.RowKit
set_option linter.unusedVariables false

/-- a line of the document's -/
structure PM where
  n : List UInt8
  N : Int
  S : Int
deriving DecidableEq
def PM.vals (x : PM) : List Value := [.string (bs x.n), .int .i64 x.N, .int .i64 x.S]
def PM.pl (x : PM) : PL := ⟨x.n, x.N, x.S.toNat⟩
def mcells (l : List PM) : List Value := l.flatMap PM.vals
theorem infoM : (Tryz.prog.info? 62).map (fun i => (i.zero, i.size, i.bytes)) = some (some (.agg #[.string ⟨#[]⟩, .int .i64 0, .int .i64 0]), 3, 32) := by kernel_rfl
theorem mcells_nil : mcells [] = [] := rfl
theorem mcells_cons (x : PM) (l : List PM) : mcells (x :: l) = [.string (bs x.n), .int .i64 x.N, .int .i64 x.S] ++ mcells l := rfl
theorem mcells_append (l m : List PM) : mcells (l ++ m) = mcells l ++ mcells m := by unfold mcells; exact List.flatMap_append
theorem mcells_len (l : List PM) : (mcells l).length = l.length * 3 := by
  induction l with
  | nil => rfl
  | cons k l ih => rw [mcells_cons, List.length_append, ih]; simp; omega
theorem mcells_get (l : List PM) (k : Nat) (h : k < l.length) : (mcells l)[k * 3]? = some (.string (bs l[k].n)) ∧ (mcells l)[k * 3 + 1]? = some (.int .i64 l[k].N) ∧ (mcells l)[k * 3 + 2]? = some (.int .i64 l[k].S) := by
  induction l generalizing k with
  | nil => simp at h
  | cons o l ih =>
    cases k with
    | zero => exact ⟨rfl, rfl, rfl⟩
    | succ k =>
      have := ih k (by simpa using h)
      rw [mcells_cons]
      rw [show (k + 1) * 3 = 3 + k * 3 by omega, show 3 + k * 3 + 1 = 3 + (k * 3 + 1) by omega, show 3 + k * 3 + 2 = 3 + (k * 3 + 2) by omega]
      rw [List.getElem?_append_right (by simp), List.getElem?_append_right (by simp), List.getElem?_append_right (by simp)]
      simpa using this
theorem mcells_cell (l : List PM) : ∀ u ∈ mcells l, u.oneCell' = true := by
  intro u hu
  obtain ⟨x, _, hx⟩ := List.mem_flatMap.1 hu
  simp [PM.vals] at hx
  rcases hx with rfl | rfl | rfl <;> rfl
def lastM (l : List PM) (k : Nat) : List UInt8 := match k with | 0 => [] | k + 1 => (l[k]?.map PM.n).getD []
theorem lastM_succ {l : List PM} {k : Nat} (h : k < l.length) : lastM l (k + 1) = (l[k]'h).n := by simp [lastM, h]
set_option maxRecDepth 100000 in
set_option maxHeartbeats 6400000 in
theorem linesFault_any (l : List PM) (v : Value) (w : World) (hl : SliceIs w v 3 (mcells l)) (hnm : ∀ x ∈ l, x.n.length ≤ 1000000000) :
    Calls Tryz.prog 6 #[v] w fun e w' => e = .returned (rfv (lnFault (l.map PM.pl))) ∧ Below w.heap.size w w' := by
  obtain ⟨s, n, c, rfl, hn, h1, h2, hg⟩ := hl.get
  rw [mcells_len] at hn
  obtain rfl : n = l.length := by omega
  unfold maxLen at h2
  have MK := Lib.hid (rfv_mk (lnFault (l.map PM.pl)))
  have HSL := Lib.hid hl
  have HNM := Lib.hid hnm
  have HML := Lib.hid (show (l.map PM.pl).length = l.length from List.length_map ..)
  have HB0 := Lib.hid (below_one w (.cells #[.int .i64 0, .int .i64 0] 26))
  clear hl hg hnm
  by_cases hfull : 20 < l.length
  · have hI : (20 : Int) < l.length := by omega
    have FA := Lib.hid (lnFault_full (l := l.map PM.pl) (by rw [HML.out]; exact hfull))
    go_enter Tryz.func6, Tryz.ntmps6
    go_wp2_with fail
    refine (rbare_any 8 _).mono ?_
    rintro e w1 ⟨rfl, b1⟩
    have hz1 := (b1.block w.heap.size (by simp)).trans (heap_alloc_new w _)
    have f0 : w1.frozen? ⟨w.heap.size, 0, none⟩ = false := by simp [World.frozen?, hz1]
    have f1 : w1.frozen? ⟨w.heap.size, 1, none⟩ = false := by simp [World.frozen?, hz1]
    have e0 : w1.cell? ⟨w.heap.size, 0, none⟩ = some (.int .i64 0) := by simp [World.cell?, hz1]
    have e1 : w1.cell? ⟨w.heap.size, 1, none⟩ = some (.int .i64 0) := by simp [World.cell?, hz1]
    have bx := below_trans' HB0.out b1
    obtain ⟨r0, r1⟩ := set2 hz1 (.int .i64 8) (.int .i64 (-1))
    have bb := (bx.setCell (p := ⟨w.heap.size, 0, none⟩) (Nat.le_refl _) (.int .i64 8)).setCell (p := ⟨w.heap.size, 1, none⟩) (Nat.le_refl _) (.int .i64 (-1))
    go_wp2_with fail
    generalize (w1.setCell ⟨w.heap.size, 0, none⟩ (.int .i64 8)).setCell ⟨w.heap.size, 1, none⟩ (.int .i64 (-1)) = w2 at r0 r1 bb ⊢
    (try simp only [Exit.inBlock, Exit.then])
    refine bodyPost_ret (by simp [results, Tryz.results6, go_sem, r0, r1]; try rfl) rfl ?_
    exact ⟨by rw [FA.out, rfv_is]; rfl, bb⟩
  · have hI : ¬ (20 : Int) < l.length := by omega
    have FA := Lib.hid (lnFault_from (l := l.map PM.pl) (by rw [HML.out]; exact hfull))
    go_enter Tryz.func6, Tryz.ntmps6
    go_wp2_with fail
    go_loopw [3, 4, 5] (fun i _ _ wr => ∃ (k : Nat), i = .int .i64 k ∧ k ≤ l.length ∧ lnFault (l.map PM.pl) = lnFrom k (lastM l k) ((l.map PM.pl).drop k) ∧ wr.heap[w.heap.size]? = some (.cells #[.int .i64 0, .int .i64 0] 26 (0, 0)) ∧ Below w.heap.size w wr) (fun i _ _ _ => l.length - (intOf i).toNat)
    case atStart => exact ⟨0, rfl, by omega, FA.out, heap_alloc_new w _, HB0.out⟩
    case round =>
      obtain ⟨k, rfl, hk, hf, hz, hbw⟩ := hrel
      have HFA := Lib.hid hf
      have BW := Lib.hid hbw
      have HZ := Lib.hid hz
      clear hf hbw
      by_cases hlt : k < l.length
      · have hltI : (k : Int) < l.length := by omega
        have hltM : k < (l.map PM.pl).length := by rw [HML.out]; exact hlt
        have HEL := Lib.hid (show (l.map PM.pl)[k]'hltM = (l[k]'hlt).pl from List.getElem_map ..)
        have BAD := Lib.hid (fun c hc h0 => HFA.out.trans (lnFrom_bad (last := lastM l k) hltM (c := c) hc h0))
        have NEXT := Lib.hid (fun h0 => (HFA.out.trans (lnFrom_step (last := lastM l k) hltM h0)))
        rw [HEL.out] at BAD NEXT
        rw [show (l[k]'hlt).pl.n = lastM l (k + 1) from (lastM_succ hlt).symm] at NEXT
        have RN := Lib.hid (fun w' => isName_any (l[k]'hlt).n w' (HNM.out _ (List.getElem_mem _)))
        have KK := Lib.hid (show k + 1 ≤ l.length from hlt)
        obtain ⟨s', n', c', q, _, _, _, g1⟩ := (HSL.out.below BW.out).get
        cases q
        obtain ⟨a0, a1, _⟩ := mcells_get l k hlt
        obtain ⟨ad, rfl, d0⟩ := g1 _ _ a0
        obtain ⟨ad', q, d1⟩ := g1 _ _ a1
        cases q
        have G1 := Lib.hid g1
        clear g1 a0 a1
        have d1 := cell_at d1
        have x1 : (0 : Int) ≤ k := by omega
        have x2 : (k : Int).toNat = k := by omega
        generalize hx : l[k]'hlt = x at d0 d1 BAD NEXT RN
        have HX := Lib.hid hx
        clear hx
        obtain ⟨xn, xN, xS⟩ := x
        simp only [] at d0 d1 RN
        simp only [PM.pl] at BAD NEXT
        have f0 : wr.frozen? ⟨w.heap.size, 0, none⟩ = false := by simp [World.frozen?, hz]
        have f1 : wr.frozen? ⟨w.heap.size, 1, none⟩ = false := by simp [World.frozen?, hz]
        have e0 : wr.cell? ⟨w.heap.size, 0, none⟩ = some (.int .i64 0) := by simp [World.cell?, hz]
        have e1 : wr.cell? ⟨w.heap.size, 1, none⟩ = some (.int .i64 0) := by simp [World.cell?, hz]
        clear hz
        cases hnb : nameB xn with
        | false =>
          have hb := Lib.hid (BAD.out 5 (lnBad_name hnb) (by decide))
          rw [hnb] at RN
          clear BAD NEXT hnb
          go_wp2_with fail
          refine (RN.out _).mono ?_
          rintro e w1 ⟨rfl, rfl⟩
          obtain ⟨r0, r1⟩ := set2 HZ.out (.int .i64 5) (.int .i64 k)
          have bb := (BW.out.setCell (p := ⟨w.heap.size, 0, none⟩) (Nat.le_refl _) (.int .i64 5)).setCell (p := ⟨w.heap.size, 1, none⟩) (Nat.le_refl _) (.int .i64 k)
          go_wp2_with fail
          generalize (w1.setCell ⟨w.heap.size, 0, none⟩ (.int .i64 5)).setCell ⟨w.heap.size, 1, none⟩ (.int .i64 k) = w2 at r0 r1 bb ⊢
          (try simp only [Exit.inBlock, Exit.then])
          refine bodyPost_ret (by simp [results, Tryz.results6, go_sem, r0, r1]; try rfl) rfl ?_
          exact ⟨by rw [hb.out, rfv_is]; rfl, bb⟩
        | true =>
          rw [hnb] at RN
          by_cases hbd : xN < 0 ∨ 4000 < xN
          · have hb := Lib.hid (BAD.out 2 (lnBad_bound hnb hbd) (by decide))
            clear BAD NEXT hnb
            rcases (show xN < 0 ∨ ¬ xN < 0 ∧ 4000 < xN by omega) with h | ⟨h, h'⟩
            all_goals
              go_wp2_with fail
              refine (RN.out _).mono ?_
              rintro e w1 ⟨rfl, rfl⟩
              obtain ⟨r0, r1⟩ := set2 HZ.out (.int .i64 2) (.int .i64 k)
              have bb := (BW.out.setCell (p := ⟨w.heap.size, 0, none⟩) (Nat.le_refl _) (.int .i64 2)).setCell (p := ⟨w.heap.size, 1, none⟩) (Nat.le_refl _) (.int .i64 k)
              go_wp2_with fail
              generalize (w1.setCell ⟨w.heap.size, 0, none⟩ (.int .i64 2)).setCell ⟨w.heap.size, 1, none⟩ (.int .i64 k) = w2 at r0 r1 bb ⊢
              (try simp only [Exit.inBlock, Exit.then])
              refine bodyPost_ret (by simp [results, Tryz.results6, go_sem, r0, r1]; try rfl) rfl ?_
              exact ⟨by rw [hb.out, rfv_is]; rfl, bb⟩
          · have h1' : ¬ xN < 0 := by omega
            have h2' : ¬ 4000 < xN := by omega
            rcases Nat.eq_zero_or_pos k with hk0 | hkp
            · have hb := Lib.hid (NEXT.out (by rw [hk0]; exact lnBad_first hnb hbd))
              have hkI : ¬ (0 : Int) < k := by omega
              have hkD : decide ((0 : Int) < k) = false := by simpa using hkI
              have hkN : ¬ 0 < k := by omega
              have hgt : ∀ w, (binOp .gtr 3 (.int .i64 (k : Int)) (.int .i64 0)).run Tryz.prog w = .ok (.bool false) w := fun w => by rw [show (k : Int) = 0 by omega]; rfl
              clear BAD NEXT hk0 hbd hnb
              go_wp2_with fail
              refine (RN.out _).mono ?_
              rintro e w1 ⟨rfl, rfl⟩
              go_wp2_with fail
              go_quiet (fail)
              go_wp2_with fail
              go_roundw
              case rel => exact ⟨k + 1, by go_num, KK.out, hb.out, HZ.out, below_drewN BW.out _⟩
              case measure => simp [intOf]; omega
            · have hkb : (k == 0) = false := by simp; omega
              have hkI : (0 : Int) < k := by omega
              obtain ⟨j, hj⟩ : ∃ j, k = j + 1 := ⟨k - 1, by omega⟩
              have hjl : j < l.length := by omega
              obtain ⟨a2, q2, d2⟩ := G1.out _ _ (mcells_get l j hjl).1
              cases q2
              have d3 : wr.cell? (ad.add (j * 3)) = some (.string (bs (lastM l k))) := by rw [hj, lastM_succ hjl]; exact d2
              have hgt : ∀ w, (binOp .gtr 3 (.int .i64 (k : Int)) (.int .i64 0)).run Tryz.prog w = .ok (.bool true) w := fun w => (show (binOp .gtr 3 (.int .i64 (k : Int)) (.int .i64 0)).run Tryz.prog w = .ok (.bool (decide ((0 : Int) < k))) w from rfl).trans (by rw [decide_eq_true hkI])
              have x3 : ((k : Int) - 1).toNat = j := by omega
              have x4 : (0 : Int) ≤ (k : Int) - 1 := by omega
              have x5 : (k : Int) - 1 < l.length := by omega
              have hkN : 0 < k := hkp
              clear d2
              cases hor : ltL (lastM l k) xn with
              | true =>
                have hb := Lib.hid (NEXT.out (lnBad_next hnb hbd hor))
                generalize lastM l k = la at d3 hor
                have hle : ∀ w, (binOp .leq 9 (.string (bs xn)) (.string (bs la))).run Tryz.prog w = .ok (.bool false) w := fun w => by rw [run_leq, hor]; rfl
                clear BAD NEXT hbd hnb hor hkb hj hkp
                go_wp2_with fail
                refine (RN.out _).mono ?_
                rintro e w1 ⟨rfl, rfl⟩
                go_wp2_with fail
                go_quiet (fail)
                go_wp2_with fail
                go_roundw
                case rel => exact ⟨k + 1, by go_num, KK.out, hb.out, HZ.out, below_drewN BW.out _⟩
                case measure => simp [intOf]; omega
              | false =>
                have hb := Lib.hid (BAD.out 9 (by rw [hkb]; exact lnBad_order hnb hbd hor) (by decide))
                generalize lastM l k = la at d3 hor
                have hle : ∀ w, (binOp .leq 9 (.string (bs xn)) (.string (bs la))).run Tryz.prog w = .ok (.bool true) w := fun w => by rw [run_leq, hor]; rfl
                clear BAD NEXT hbd hnb hor hkb hj hkp
                go_wp2_with fail
                refine (RN.out _).mono ?_
                rintro e w1 ⟨rfl, rfl⟩
                go_wp2_with fail
                go_quiet (fail)
                go_wp2_with fail
                have rr := fun n => set2 (show (w1.drewN n).heap[w.heap.size]? = _ from HZ.out) (.int .i64 9) (.int .i64 k)
                have r0 := fun n => (rr n).1
                have r1 := fun n => (rr n).2
                (try simp only [Exit.inBlock, Exit.then])
                refine bodyPost_ret (by simp [results, Tryz.results6, go_sem, r0, r1]; try rfl) rfl ?_
                exact ⟨by rw [hb.out, rfv_is]; rfl, ((below_drewN BW.out _).setCell (p := ⟨w.heap.size, 0, none⟩) (Nat.le_refl _) (.int .i64 9)).setCell (p := ⟨w.heap.size, 1, none⟩) (Nat.le_refl _) (.int .i64 k)⟩
      · have hltI : ¬ (k : Int) < l.length := by omega
        have hb := Lib.hid (HFA.out.trans (lnFrom_end (last := lastM l k) (by rw [HML.out]; omega)))
        go_wp2_with fail
        refine (rfine_any _).mono ?_
        rintro e w1 ⟨rfl, b1⟩
        have hz1 := (b1.block w.heap.size (lt_of_block HZ.out)).trans HZ.out
        have f0 : w1.frozen? ⟨w.heap.size, 0, none⟩ = false := by simp [World.frozen?, hz1]
        have f1 : w1.frozen? ⟨w.heap.size, 1, none⟩ = false := by simp [World.frozen?, hz1]
        have e0 : w1.cell? ⟨w.heap.size, 0, none⟩ = some (.int .i64 0) := by simp [World.cell?, hz1]
        have e1 : w1.cell? ⟨w.heap.size, 1, none⟩ = some (.int .i64 0) := by simp [World.cell?, hz1]
        have bx := below_trans' BW.out b1
        obtain ⟨r0, r1⟩ := set2 hz1 (.int .i64 0) (.int .i64 (-1))
        have bb := (bx.setCell (p := ⟨w.heap.size, 0, none⟩) (Nat.le_refl _) (.int .i64 0)).setCell (p := ⟨w.heap.size, 1, none⟩) (Nat.le_refl _) (.int .i64 (-1))
        go_wp2_with fail
        generalize (w1.setCell ⟨w.heap.size, 0, none⟩ (.int .i64 0)).setCell ⟨w.heap.size, 1, none⟩ (.int .i64 (-1)) = w2 at r0 r1 bb ⊢
        (try simp only [Exit.inBlock, Exit.then])
        refine bodyPost_ret (by simp [results, Tryz.results6, go_sem, r0, r1]; try rfl) rfl ?_
        exact ⟨by rw [hb.out, rfv_is]; rfl, bb⟩
end Go.Proofs.YtapdfgnfblkncaaGreatDoor
