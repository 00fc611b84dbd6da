/- Contract of (*Receiver).Ack. -/
import Derived.Test.YtnjkopjbognpiaaDoorWinTake
import Derived.Test.YtnjkopjbognpiaaDoorWinRcv
namespace Go.Proofs.YtnjkopjbognpiaaDoor
open Go.RowKit
set_option linter.unusedVariables false

theorem ackMore_step (due : Int) (m : List (Int × List UInt8)) (k : Nat) :
    (((List.range (k + 1)).map fun i : Nat => md (due + i)).filter fun k => (lk m k).isSome) = (((List.range k).map fun i : Nat => md (due + i)).filter fun k => (lk m k).isSome) ++ (if (lk m (md (due + k))).isSome then [md (due + k)] else []) := by
  rw [List.range_succ, List.map_append, List.filter_append]
  congr 1
  simp only [List.map_cons, List.map_nil, List.filter_cons, List.filter_nil]
def ackTo (due : Int) (m : List (Int × List UInt8)) (k : Nat) : List Int := ((List.range k).map fun i : Nat => md (due + i)).filter fun k => (lk m k).isSome
theorem ackTo_zero (due : Int) (m : List (Int × List UInt8)) : ackTo due m 0 = [] := rfl
theorem ackTo_yes {due : Int} {m : List (Int × List UInt8)} {k : Nat} {d : List UInt8} (h : lk m (md (due + k)) = some d) : ackTo due m (k + 1) = ackTo due m k ++ [md (due + k)] := by unfold ackTo; rw [ackMore_step, h]; rfl
theorem ackTo_no {due : Int} {m : List (Int × List UInt8)} {k : Nat} (h : lk m (md (due + k)) = none) : ackTo due m (k + 1) = ackTo due m k := by unfold ackTo; rw [ackMore_step, h]; simp
theorem ackTo_all (due : Int) (m : List (Int × List UInt8)) : ackTo due m 32 = ackMore due m := rfl
theorem ackTo_len (due : Int) (m : List (Int × List UInt8)) (k : Nat) : (ackTo due m k).length ≤ k := by unfold ackTo; exact Nat.le_trans (List.length_filter_le _ _) (by simp)
attribute [irreducible] ackTo
theorem ack_keep1 {wq w5 : World} {a : Nat} {e : TypeId} {v : Value} {n : Nat} {xs : List Value} {u0 u1 : Value} {t : TypeId} {o : Obj} (h : wq.ownsRow (a + 2) e 1 v n xs) (hb : wq.heap[a + 1]? = some (.cells #[u0, u1] t (0, 0))) (hg : (wq.alloc o).grownBy w5 v.ownBlock) :
    w5.heap[a + 1]? = some (.cells #[u0, u1] t (0, 0)) := by
  have := lt_of_block hb
  rw [hg.block (a + 1) (by simp; omega) (fun e => by have := (h.lt _ e.symm).1; omega), heap_alloc_old _ _ this]; exact hb
theorem ack_keep0 {wq w5 : World} {a : Nat} {e : TypeId} {v : Value} {n : Nat} {xs : List Value} {u0 u1 : Value} {t : TypeId} {o : Obj} (h : wq.ownsRow (a + 2) e 1 v n xs) (hb : wq.heap[a]? = some (.cells #[u0, u1] t (0, 0))) (hg : (wq.alloc o).grownBy w5 v.ownBlock) :
    w5.heap[a]? = some (.cells #[u0, u1] t (0, 0)) := by
  have := lt_of_block hb
  rw [hg.block a (by simp; omega) (fun e => by have := (h.lt _ e.symm).1; omega), heap_alloc_old _ _ this]; exact hb
set_option maxRecDepth 100000 in
set_option maxHeartbeats 6400000 in
theorem rack_any (w : World) (rb mb n : Nat) (due : Int) (m : List (Int × List UInt8)) (h : RcvAt w rb mb n due m) :
    Calls Tryd.prog 15 #[.pointer (some ⟨rb, 0, none⟩)] w fun e w' => ∃ r, e = .returned (.agg #[.int .i64 due, r]) ∧ w'.ownsRow w.heap.size 3 1 r (ackMore due m).length ((ackMore due m).map (Value.int .i64)) ∧ Below w.heap.size w w' := by
  obtain ⟨⟨c0, c1⟩, _⟩ := h.cs
  have HH := Lib.hid h
  have hd := h.due
  obtain ⟨i0, hi, hz0, hz1, hz2⟩ := info_parts infoInt
  have hrb := lt_of_block h.cells
  have hmb := h.map.lt
  have n1 : rb ≠ w.heap.size := by omega
  have n2 : rb ≠ w.heap.size + 1 := by omega
  have B2 := Lib.hid ((wb_alloc w (.cells #[.int .i64 0, .slice none 0 0] 49)).alloc (by simp) (.cells #[.int .i64 due, .slice none 0 0] 49))
  clear h
  go_enter Tryd.func15, Tryd.ntmps15
  go_wp2_with fail
  go_loopw [12, 4, 5, 6] (fun i _ _ _ wr => ∃ (k : Nat) (o : Value), i = .int .i64 k ∧ k ≤ 32 ∧ wr.heap[w.heap.size + 1]? = some (.cells #[.int .i64 due, o] 49 (0, 0)) ∧ wr.heap[w.heap.size]? = some (.cells #[.int .i64 0, .slice none 0 0] 49 (0, 0)) ∧ wr.ownsRow (w.heap.size + 2) 3 1 o (ackTo due m k).length ((ackTo due m k).map (Value.int .i64)) ∧ Below w.heap.size w wr) (fun i _ _ _ _ => 32 - (intOf i).toNat)
  case atStart =>
    refine ⟨0, .slice none 0 0, rfl, by omega, ?_, ?_, by rw [ackTo_zero]; exact World.ownsRow_nil _ _ _ _, B2.out⟩
    · have := heap_alloc_new (w.alloc (.cells #[.int .i64 0, .slice none 0 0] 49)) (.cells #[.int .i64 due, .slice none 0 0] 49)
      rwa [show (w.alloc (.cells #[.int .i64 0, .slice none 0 0] 49)).heap.size = w.heap.size + 1 by simp] at this
    · exact (heap_alloc_old _ _ (by simp)).trans (heap_alloc_new _ _)
  case round =>
    obtain ⟨k, o, rfl, hk, hob, hrs, hown, bel⟩ := hrel
    have R := HH.out.kept (Chg.of_below bel (fun _ => False)) (fun h => h) (fun h => h)
    obtain ⟨⟨c0, c1⟩, _⟩ := R.cs
    obtain ⟨d0, d1, d2, d3⟩ := snd_cs hob
    by_cases hlt : k < 32
    · have hltI : (k : Int) < 32 := by omega
      have hw : IntKind.i64.wrap (due + k) = due + k := IntWalk.i64_in _ (by omega)
      have WM := Lib.hid (fun w' => wmod_any (due + k) w')
      have HWF := Lib.hid (wf_well (md_lt (due + k)))
      cases hl : lk m (md (due + k)) with
      | none =>
        have LK : ∀ nq, (Instr.lookup 62 (.map (some mb)) (.int .i64 (md (due + k))) true).run Tryd.prog (wr.drewN nq) = .ok (.tuple #[.string (bs ((none : Option (List UInt8)).getD [])), .bool (none : Option (List UInt8)).isSome]) (wr.drewN nq) := fun nq => by
          have := MapIs.look (w := wr.drewN nq) (R.map.kept rfl) HWF.out
          rwa [hl] at this
        have NX := Lib.hid (ackTo_no hl)
        generalize md (due + k) = z at *
        have KK := Lib.hid (show k + 1 ≤ 32 by omega)
        have HOB := Lib.hid hob
        have HRS := Lib.hid hrs
        have HO := Lib.hid hown
        clear hl R hob hrs hown
        go_wp2_with fail
        go_quiet ((go_at_call 27; first | exact quiet_left (WM.out _) | exact quiet_add_left (WM.out _)))
        go_wp2_with fail
        go_roundw
        case rel => exact ⟨k + 1, o, by go_num, KK.out, HOB.out, HRS.out, by rw [NX.out]; exact HO.out, below_drewN bel _⟩
        case measure => simp [intOf]; omega
      | some d =>
        have LK : ∀ nq, (Instr.lookup 62 (.map (some mb)) (.int .i64 (md (due + k))) true).run Tryd.prog (wr.drewN nq) = .ok (.tuple #[.string (bs d), .bool true]) (wr.drewN nq) := fun nq => by
          have := MapIs.look (w := wr.drewN nq) (R.map.kept rfl) HWF.out
          rwa [hl] at this
        have NX := Lib.hid (ackTo_yes hl)
        have HL := Lib.hid (ackTo_len due m k)
        generalize md (due + k) = z at *
        have KK := Lib.hid (show k + 1 ≤ 32 by omega)
        have HOB := Lib.hid hob
        have HRS := Lib.hid hrs
        have HO := Lib.hid hown
        obtain ⟨va, vc, rfl⟩ := owns_slice hown
        generalize ackTo due m k = L at *
        have HN1 : Hid (L.length + 1 ≤ maxLen) := by show _ ≤ _; unfold maxLen; have := HL.out; omega
        have HN2 : Hid ((L.length + 1) * 8 ≤ 140737488355328) := by show _ ≤ _; have := HL.out; omega
        have hos := lt_of_block hob
        clear hl R hob hrs hown
        go_wp2_with fail
        go_quiet ((go_at_call 27; first | exact quiet_left (WM.out _) | exact quiet_add_left (WM.out _)))
        go_wp2_with fail
        generalize hwq : World.drewN wr nq = wq at *
        have belq : Below w.heap.size w wq := by rw [← hwq]; exact below_drewN bel nq
        have HOq := Lib.hid (show wq.ownsRow (w.heap.size + 2) 3 1 (.slice va L.length vc) L.length (L.map (Value.int .i64)) by rw [← hwq]; exact HO.out)
        have HOBq := Lib.hid (show wq.heap[w.heap.size + 1]? = some (.cells #[.int .i64 due, .slice va L.length vc] 49 (0, 0)) by rw [← hwq]; exact HOB.out)
        have HRSq := Lib.hid (show wq.heap[w.heap.size]? = some (.cells #[.int .i64 0, .slice none 0 0] 49 (0, 0)) by rw [← hwq]; exact HRS.out)
        have c0q : wq.cell? ⟨rb, 0, none⟩ = some (.int .i64 due) := by rw [← hwq]; exact c0
        obtain ⟨d0q, d1q, d2q, d3q⟩ := snd_cs HOBq.out
        have hrbq : rb < wq.heap.size := by have := belq.size; omega
        have hosq : w.heap.size + 1 < wq.heap.size := lt_of_block HOBq.out
        clear hwq bel c0 c1 d0 d1 d2 d3 hos LK
        have HN3 := Lib.hid (fun (o : Obj) => show w.heap.size + 2 ≤ ((wq.alloc o).drew).heap.size by have := lt_of_block HOBq.out; simp; omega)
        go_region_law (first | (go_simp; go_at_call 27; refine (WM.out _).mono ?_; rintro e w' ⟨rfl, rfl⟩) | (refine step_append_own rfl (.tmp 32) (.tmp 40) 31 rfl (w.heap.size + 2) 3 i0 _ 1 8 Tryd.underlying31 hi hz0 hz1 hz2 rfl (by decide) (.slice va L.length vc) L.length _ rfl (HOq.out.alloc _).drew ⟨wq.heap.size, 0, none⟩ 1 1 [.int .i64 z] rfl rfl (one_news (by simp)) (one_cell rfl) HN1.out HN2.out (HN3.out _) ?_; intro v' w5 hown5 hgrow _; obtain ⟨va', vc', rfl⟩ := owns_slice hown5; have HO5 := Lib.hid hown5; have HG5 := Lib.hid (grown_undrew hgrow); obtain ⟨g0, g1, g2, g3⟩ := snd_cs (ack_keep1 HOq.out HOBq.out HG5.out)))
        all_goals
          have bel5 := (belq.alloc belq.size (.cells #[.int .i64 z] 3)).grown HG5.out (by have := belq.size; simp; omega) (fun j hj => by have := (HOq.out.lt j hj).1; omega)
          go_wp2_with fail
          go_roundw
          case rel =>
            refine ⟨k + 1, .slice va' (L.length + 1) vc', by go_num, KK.out, ?_, ?_, ?_, bel5.setCell (by simp) _⟩
            · have := set_at (k := 1) (u := .slice va' (L.length + 1) vc') (ack_keep1 HOq.out HOBq.out HG5.out); simpa using this
            · exact (Below.heap_setCell _ _ _ _ (by simp)).trans (ack_keep0 HOq.out HRSq.out HG5.out)
            · rw [NX.out, List.length_append, List.map_append]
              exact own_other HO5.out ((Chg.refl w5 (fun x => x = w.heap.size + 1)).set ⟨w.heap.size + 1, 1, none⟩ (.inl rfl) _) (fun x hx e => by have := (HO5.out.lt x hx).1; omega)
          case measure => simp [intOf]; omega
    · have hltI : ¬ (k : Int) < 32 := by omega
      obtain rfl : k = 32 := by omega
      rw [ackTo_all] at hown
      obtain ⟨e0, e1, e2, e3⟩ := snd_cs hrs
      have HO := Lib.hid hown
      obtain ⟨va, vc, rfl⟩ := owns_slice hown
      clear hown R
      go_wp2_with fail
      have r01 : ((wr.setCell ⟨w.heap.size, 0, none⟩ (.int .i64 due)).setCell ⟨w.heap.size, 1, none⟩ (.slice va (ackMore due m).length vc)).heap[w.heap.size]? = some (.cells #[.int .i64 due, .slice va (ackMore due m).length vc] 49 (0, 0)) := by
        have := set_at (k := 1) (u := .slice va (ackMore due m).length vc) (set_at (k := 0) (u := .int .i64 due) hrs)
        simpa using this
      have BW := (bel.setCell (p := ⟨w.heap.size, 0, none⟩) (Nat.le_refl _) (.int .i64 due)).setCell (p := ⟨w.heap.size, 1, none⟩) (Nat.le_refl _) (.slice va (ackMore due m).length vc)
      have OW := owns_mono' (base' := w.heap.size) (own_other HO.out (((Chg.refl wr (fun x => x = w.heap.size)).set ⟨w.heap.size, 0, none⟩ (.inl rfl) (.int .i64 due)).set ⟨w.heap.size, 1, none⟩ (.inl rfl) (.slice va (ackMore due m).length vc)) (fun x hx e => by have := (HO.out.lt x hx).1; omega)) (by omega)
      generalize (wr.setCell ⟨w.heap.size, 0, none⟩ (.int .i64 due)).setCell ⟨w.heap.size, 1, none⟩ (.slice va (ackMore due m).length vc) = W at *
      obtain ⟨r0, r1, _, _⟩ := snd_cs r01
      refine bodyPost_ret (by simp [results, Tryd.results15, go_sem, r0, r1]; try rfl) rfl ?_
      exact ⟨_, rfl, OW, BW⟩
end Go.Proofs.YtnjkopjbognpiaaDoor
