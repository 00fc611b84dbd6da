/- Contracts of window's receiver: NewReceiver, Take. -/
import Derived.Test.YtnjkopjbognpiaaDoorWinBase
import Derived.Test.YtnjkopjbognpiaaDoorWinMap
import Derived.Test.YtnjkopjbognpiaaDoorChg
namespace Go.Proofs.YtnjkopjbognpiaaDoor
open Go.RowKit
set_option linter.unusedVariables false

/-- a receiver: its block rb, its map's block mb -/
structure RcvAt (w : World) (rb mb n : Nat) (due : Int) (m : List (Int × List UInt8)) : Prop where
  cells : w.heap[rb]? = some (.cells #[.int .i64 due, .map (some mb)] 64 (0, 0))
  map : MapIs w mb n m
  ne : rb ≠ mb
  due : 0 ≤ due ∧ due < 65536
theorem RcvAt.kept {w w' : World} {rb mb n : Nat} {due : Int} {m : List (Int × List UInt8)} {S : Nat → Prop} (h : RcvAt w rb mb n due m) (hc : Chg w w' S) (h1 : ¬ S rb) (h2 : ¬ S mb) : RcvAt w' rb mb n due m :=
  ⟨(hc.block rb (lt_of_block h.cells) h1).trans h.cells, h.map.kept (hc.block mb h.map.lt h2), h.ne, h.due⟩
theorem RcvAt.cs {w : World} {rb mb n : Nat} {due : Int} {m : List (Int × List UInt8)} (h : RcvAt w rb mb n due m) : (w.cell? ⟨rb, 0, none⟩ = some (.int .i64 due) ∧ w.cell? ⟨rb, 1, none⟩ = some (.map (some mb))) ∧ ∀ k, w.frozen? ⟨rb, k, none⟩ = false := by
  refine ⟨⟨?_, ?_⟩, fun k => ?_⟩ <;> simp [World.cell?, World.frozen?, h.cells]
set_option maxRecDepth 100000 in
set_option maxHeartbeats 1600000 in
theorem newrcv_any (first : Int) (w : World) : Calls Tryd.prog 6 #[.int .i64 first] w fun e w' => ∃ rb mb, e = .returned (.pointer (some ⟨rb, 0, none⟩)) ∧ RcvAt w' rb mb 0 (stN first) [] ∧ Below w.heap.size w w' ∧ w.heap.size ≤ rb ∧ w.heap.size ≤ mb := by
  have ST := Lib.hid (fun w' => wstart_any first w')
  have HL := Lib.hid (md_lt (max first 0))
  have M0 := Lib.hid (MapIs.made w)
  have hmm := @run_makeMap Tryd.prog
  go_enter Tryd.func6, Tryd.ntmps6
  go_wp2_with fail
  refine (ST.out _).mono ?_
  rintro e w1 ⟨rfl, rfl⟩
  go_wp2_with fail
  go_ret
  have b1 := wb_alloc w (.map #[] 0)
  have hn := heap_alloc_new (w.alloc (.map #[] 0)) (.cells #[.int .i64 (stN first), .map (some w.heap.size)] 64)
  rw [show (w.alloc (.map #[] 0)).heap.size = w.heap.size + 1 by simp] at hn
  refine ⟨_, w.heap.size, rfl, ⟨hn, ?_, ?_, HL.out⟩, b1.alloc b1.size _, ?_, Nat.le_refl _⟩
  · exact M0.out.kept ((wb_alloc (w.alloc (.map #[] 0)) _).block _ (by simp))
  · simp
  · simp
theorem MapIs.mono {w : World} {b n : Nat} {m : List (Int × List UInt8)} (h : MapIs w b n m) {n' : Nat} (hn : n ≤ n') : MapIs w b n' m := by
  obtain ⟨D, h1, h2⟩ := h
  exact ⟨D, h1.mono hn, h2⟩
theorem mput_len (m : List (Int × List UInt8)) (k : Int) (s : List UInt8) : (mput m k s).length ≤ m.length + 1 := by
  unfold mput mdel
  have := List.length_filter_le (fun p : Int × List UInt8 => !(p.1 == k)) m
  simp only [List.length_cons]; omega
def Two (rb mb : Nat) : Nat → Prop := fun x => x = rb ∨ x = mb
set_option maxRecDepth 100000 in
set_option maxHeartbeats 6400000 in
theorem rtake_any (w : World) (rb mb n : Nat) (due : Int) (m : List (Int × List UInt8)) (h : RcvAt w rb mb n due m) (k : Int) (hk : (Lit.int .i64 k).wf = true) (s : List UInt8) (hs : s.length ≤ maxLen) (hn : n + 1 ≤ 1000000) (hm : m.length ≤ 1000000) :
    Calls Tryd.prog 18 #[.pointer (some ⟨rb, 0, none⟩), .int .i64 k, .string (bs s)] w fun e w' => ∃ v, e = .returned v ∧ RcvAt w' rb mb (n + 1) (takeR due m k s).2.1 (takeR due m k s).2.2 ∧
      w'.ownsRow w.heap.size 9 1 v (takeR due m k s).1.length ((takeR due m k s).1.map fun x => .string (bs x)) ∧ Chg w w' (Two rb mb) := by
  obtain ⟨⟨c0, c1⟩, _⟩ := h.cs
  have LK := h.map.look hk
  have WW := Lib.hid (fun w' => wwell_any k w')
  have WM := Lib.hid (fun w' => wmod_any (k - due) w')
  have HH := Lib.hid h
  have hd := h.due
  clear h
  by_cases hw : wlB k = true
  · have hkb := wlB_true hw
    have hwr : IntKind.i64.wrap (k - due) = k - due := IntWalk.i64_in _ (by omega)
    cases hl : lk m k with
    | some d =>
      have HT := Lib.hid (takeR_no (due := due) (s := s) (m := m) (k := k) (by rw [hl]; simp))
      rw [hl] at LK
      rw [hw] at WW
      go_enter Tryd.func18, Tryd.ntmps18
      go_wp2_with fail
      refine (WW.out _).mono ?_
      rintro e w1 ⟨rfl, rfl⟩
      go_wp2_with fail
      go_ret
      refine ⟨_, rfl, ?_, ?_, Chg.refl _ _⟩
      · rw [HT.out]; exact ⟨HH.out.cells, HH.out.map.mono (by omega), HH.out.ne, HH.out.due⟩
      · rw [HT.out]; exact World.ownsRow_nil _ _ _ _
    | none =>
      rw [hl] at LK
      rw [hw] at WW
      by_cases hfar : md (k - due) < 32
      · have hfI : ¬ (32 : Int) ≤ md (k - due) := by omega
        have HT := Lib.hid (takeR_yes (due := due) (s := s) (m := m) (k := k) ⟨hw, hl, hfar⟩)
        generalize md (k - due) = z at *
        obtain ⟨w1, hst, M1, t1⟩ := HH.out.map.store hk hs (show n < maxLen by unfold maxLen; omega)
        have g1 := Chg.of_grown t1.grown
        have R1 : RcvAt w1 rb mb (n + 1) due (mput m k s) := ⟨(g1.block rb (lt_of_block HH.out.cells) HH.out.ne).trans HH.out.cells, M1, HH.out.ne, hd⟩
        have G1 := Lib.hid (g1.more (T := Two rb mb) (fun x _ hx => Or.inr hx))
        have HML := Lib.hid (mput_len m k s)
        have hml := mput_len m k s
        have HR1 := Lib.hid R1
        have hws := g1.size
        generalize mput m k s = M at *
        clear M1 t1 g1 R1
        obtain ⟨i0, hi, hz0, hz1, hz2⟩ := info_parts infoStr
        go_enter Tryd.func18, Tryd.ntmps18
        go_wp2_with fail
        refine (WW.out _).mono ?_
        rintro e w2 ⟨rfl, rfl⟩
        go_wp2_with fail
        refine (WM.out _).mono ?_
        rintro e w2 ⟨rfl, rfl⟩
        go_wp2_with fail
        clear c0 c1 LK hst
        go_loopw [9, 10, 11] (fun o _ _ wr => ∃ (done : List (List UInt8)) (due' : Int) (m' : List (Int × List UInt8)) (f : Nat), RcvAt wr rb mb (n + 1) due' m' ∧ wr.ownsRow w.heap.size 9 1 o done.length (done.map fun x => .string (bs x)) ∧ Chg w wr (Two rb mb) ∧ drain M.length due M = (done ++ (drain f due' m').1, (drain f due' m').2) ∧ m'.length ≤ f ∧ f + done.length = M.length) (fun o _ _ _ => M.length - lenOf o)
        case atStart => exact ⟨[], due, M, M.length, HR1.out, World.ownsRow_nil _ _ _ _, G1.out, rfl, Nat.le_refl _, rfl⟩
        case round =>
          obtain ⟨done, due', m', f, R, hown, chg, hdr, hmf, hfd⟩ := hrel
          have R' : RcvAt wr.drew rb mb (n + 1) due' m' := ⟨R.cells, R.map, R.ne, R.due⟩
          have LK := R'.map.look (wf_well R'.due)
          obtain ⟨⟨c0, c1⟩, cf⟩ := R'.cs
          have hSS := And.intro c0 (And.intro c1 LK)
          cases hl' : lk m' due' with
          | none =>
            have hdn := drain_none (f := f) hl'
            rw [hl'] at LK hSS
            rw [hdn, List.append_nil] at hdr
            have HDR := Lib.hid hdr
            clear hdr hdn hl'
            go_wp2_with fail
            go_region_held3 (fun w' => w'.cell? ⟨rb, 0, none⟩ = some (.int .i64 due') ∧ w'.cell? ⟨rb, 1, none⟩ = some (.map (some mb)) ∧ (Instr.lookup 62 (.map (some mb)) (.int .i64 due') true).run Tryd.prog w' = .ok (.tuple #[.string (bs (none.getD [])), .bool (none : Option (List UInt8)).isSome]) w') (first | assumption | exact hSS) (fail)
            all_goals
              go_wp2_with fail
              go_ret
              refine ⟨_, rfl, ?_, ?_, chg.drew⟩
              · rw [HT.out, HDR.out]; exact R'
              · rw [HT.out, HDR.out]; exact hown
          | some d =>
            have hml2 := mdel_len hl'
            obtain ⟨f, rfl⟩ : ∃ f', f = f' + 1 := ⟨f - 1, by omega⟩
            have hds := drain_some (f := f) hl'
            rw [hds] at hdr
            rw [hl'] at LK hSS
            simp only [Option.getD_some, Option.isSome_some] at LK hSS
            have R2 : RcvAt wr.drew.drew rb mb (n + 1) due' m' := ⟨R.cells, R.map, R.ne, R.due⟩
            obtain ⟨w4, hdel, M4, t4⟩ := R2.map.drop (wf_well R2.due) 0
            have g4 := Chg.of_grown t4.grown
            have R4 : RcvAt w4 rb mb (n + 1) due' (mdel m' due') := ⟨(g4.block rb (lt_of_block R2.cells) R2.ne).trans R2.cells, M4, R2.ne, R2.due⟩
            have hrb := lt_of_block HH.out.cells
            have hmb := HH.out.map.lt
            have chg4 : Chg w w4 (Two rb mb) := chg.drew.drew.trans g4 (fun x _ hx => Or.inr hx)
            have hown4 : w4.ownsRow w.heap.size 9 1 u9 done.length (done.map fun x => .string (bs x)) := own_kept (show wr.drew.drew.ownsRow _ _ _ _ _ _ from hown) g4 (fun x hx => by subst hx; exact hmb)
            obtain ⟨⟨c0', c1'⟩, cf'⟩ := R4.cs
            obtain ⟨⟨k0, k1⟩, _⟩ := R2.cs
            have hSS2 := And.intro k0 k1
            have hSS4 := And.intro c0' c1'
            have HDR := Lib.hid hdr
            have HR4 := Lib.hid R4
            clear hdr hds hl' R2 R4 M4 t4 g4 R cf cf' chg hown
            go_wp2_with fail
            go_region_held3 (fun w' => w'.cell? ⟨rb, 0, none⟩ = some (.int .i64 due') ∧ w'.cell? ⟨rb, 1, none⟩ = some (.map (some mb)) ∧ (Instr.lookup 62 (.map (some mb)) (.int .i64 due') true).run Tryd.prog w' = .ok (.tuple #[.string (bs d), .bool true]) w') (first | assumption | exact hSS) (fail)
            go_wp2_with fail
            go_region_held3 (fun w' => w'.cell? ⟨rb, 0, none⟩ = some (.int .i64 due') ∧ w'.cell? ⟨rb, 1, none⟩ = some (.map (some mb))) (first | assumption | exact hSS2 | exact hSS4) (fail)
            obtain ⟨hd1, hd2⟩ := HR4.out.due
            have hdl : done.length + 1 ≤ 1000001 := by omega
            go_wp2_with (at_builtin; refine wpList_append_own _ rfl _ _ 32 rfl w.heap.size 9 i0 _ 1 16 Tryd.underlying32 hi hz0 hz1 hz2 rfl (by decide) _ _ _ rfl (hown4.alloc _) ⟨w4.heap.size, 0, none⟩ 1 1 [.string (bs d)] rfl rfl (one_news (by simp)) (one_cell rfl) (by unfold maxLen; omega) (by omega) (by have := chg4.size; simp; omega) ?_; intro v' w5 hown5 hgrow _; have g5 := Chg.of_own hown4 hgrow; have R5 := HR4.out.kept g5 (by omega) (by omega); obtain ⟨⟨e0, e1⟩, ef⟩ := R5.cs; have ef0 := ef 0)
            refine (wmod_any _ _).mono ?_
            rintro e w6 ⟨rfl, rfl⟩
            go_wp2_with fail
            go_roundw
            case rel =>
              refine ⟨done ++ [d], md (due' + 1), mdel m' due', f, ⟨?_, ?_, HH.out.ne, md_lt _⟩, ?_, ?_, ?_, by omega, by simp; omega⟩
              · have := set_at (k := 0) (u := .int .i64 (md (due' + 1))) R5.cells
                simpa using this
              · exact R5.map.kept (Below.heap_setCell _ _ _ _ (fun e => HH.out.ne e.symm))
              · have := own_kept hown5 ((Chg.refl w5 (fun x => x = rb)).set ⟨rb, 0, none⟩ (.inl rfl) (.int .i64 (md (due' + 1)))) (fun x hx => by subst hx; exact hrb)
                simpa using this
              · exact (chg4.trans (g5.more (T := fun x => w.heap.size ≤ x) (fun x _ hx => hx)) (fun x hx hy => by omega)).set _ (.inl (Or.inl rfl)) _
              · rw [HDR.out]; simp
            case measure =>
              rw [lenOf_own hown5, lenOf_own hown4]; omega
      · have hfI : (32 : Int) ≤ md (k - due) := by omega
        have HT := Lib.hid (takeR_no (due := due) (s := s) (m := m) (k := k) (fun h => hfar h.2.2))
        generalize md (k - due) = z at *
        go_enter Tryd.func18, Tryd.ntmps18
        go_wp2_with fail
        refine (WW.out _).mono ?_
        rintro e w1 ⟨rfl, rfl⟩
        go_wp2_with fail
        refine (WM.out _).mono ?_
        rintro e w1 ⟨rfl, rfl⟩
        go_wp2_with fail
        go_ret
        refine ⟨_, rfl, ?_, ?_, Chg.refl _ _⟩
        · rw [HT.out]; exact ⟨HH.out.cells, HH.out.map.mono (by omega), HH.out.ne, HH.out.due⟩
        · rw [HT.out]; exact World.ownsRow_nil _ _ _ _
  · have HT := Lib.hid (takeR_no (due := due) (s := s) (m := m) (k := k) (fun h => hw h.1))
    have hw' : wlB k = false := by simpa using hw
    rw [hw'] at WW
    go_enter Tryd.func18, Tryd.ntmps18
    go_wp2_with fail
    refine (WW.out _).mono ?_
    rintro e w1 ⟨rfl, rfl⟩
    go_wp2_with fail
    go_ret
    refine ⟨_, rfl, ?_, ?_, Chg.refl _ _⟩
    · rw [HT.out]; exact ⟨HH.out.cells, HH.out.map.mono (by omega), HH.out.ne, HH.out.due⟩
    · rw [HT.out]; exact World.ownsRow_nil _ _ _ _
end Go.Proofs.YtnjkopjbognpiaaDoor
