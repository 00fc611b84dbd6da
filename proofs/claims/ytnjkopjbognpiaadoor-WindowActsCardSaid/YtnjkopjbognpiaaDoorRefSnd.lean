/- The document's (*Sender).Push. The text written by program (gen_refsnd.py). -/
import Derived.Test.YtnjkopjbognpiaaDoorTwo
import Derived.Test.YtnjkopjbognpiaaDoorWinPush
namespace Go.Proofs.YtnjkopjbognpiaaDoor
open Go.RowKit
set_option linter.unusedVariables false

theorem TwoL.drewN {T : TypeId} {w : World} {base b : Nat} {vN vD : Value} {x : Int} {ln : List Int} {ld : List (List UInt8)} (h : TwoL T w base b vN vD x ln ld) (n : Nat) : TwoL T (w.drewN n) base b vN vD x ln ld := ⟨h.cells, h.ownN, h.ownD, h.lo, h.neN, h.neD, h.ne⟩
theorem pushL_n (n : Int) (l : List PK) (s : List UInt8) : (pushL 0 n l s).map PK.n = l.map PK.n ++ [n] ∧ (pushL 0 n l s).map PK.d = l.map PK.d ++ [s] := by unfold pushL; simp
theorem alloc_at1 {w : World} {b : Nat} {u : Value} {t : TypeId} (h : b = w.heap.size) : (w.alloc (.cells #[u] t)).cell? ⟨b, 0, none⟩ = some u := by
  subst h
  have := heap_alloc_new w (.cells #[u] t)
  simp only [World.cell?, this]
  rfl
set_option maxRecDepth 100000 in
set_option maxHeartbeats 12800000 in
theorem rpush_any (base sb : Nat) (vN vD : Value) (next : Int) (l : List PK) (s : List UInt8) (w : World) (h : TwoL 34 w base sb vN vD next (l.map PK.n) (l.map PK.d)) (hk : KOk l) (hn : 0 ≤ next ∧ next < 65536) (hs : s.length ≤ maxLen) (hlen : l.length ≤ 100000) (hbase : base ≤ w.heap.size) :
    Calls Tryd.prog 11 #[.pointer (some ⟨sb, 0, none⟩), .string (bs s)] w fun e w' => e = .returned (.tuple #[.int .i64 (pushN (pushC next l s) next), .int .i64 (pushC next l s : Nat)]) ∧
      TwoTo 34 w w' base sb vN vD (pushX (pushC next l s) next) ((pushL (pushC next l s) next l s).map PK.n) ((pushL (pushC next l s) next l s).map PK.d) := by
  have hsz : (bs s).size = s.length := bs_size s
  have HH := Lib.hid h
  obtain ⟨ln, hln⟩ : ∃ ln, ln = l.map PK.n := ⟨_, rfl⟩
  obtain ⟨ld, hld⟩ : ∃ ld, ld = l.map PK.d := ⟨_, rfl⟩
  rw [← hln, ← hld] at h
  obtain ⟨na, nc, rfl⟩ := owns_slice h.ownN
  obtain ⟨da, dc, rfl⟩ := owns_slice h.ownD
  obtain ⟨hn1, hn2⟩ := hn
  unfold maxLen at hs
  by_cases hbd : 20000 < s.length
  · have e1 := pushC_bound (next := next) (l := l) hbd
    have hbI : (20000 : Int) < s.length := by omega
    have HW := Lib.hid (fun (w' : World) (hd : Below w.heap.size w w') => TwoTo.same HH.out hd)
    have E1 := Lib.hid e1
    clear h e1
    go_enter Tryd.func11, Tryd.ntmps11
    go_wp2_with fail
    go_ret2
    rw [E1.out]
    exact ⟨rfl, HW.out _ (Below.refl _ _)⟩
  · have hbI : ¬ (20000 : Int) < s.length := by omega
    have hm : (next + 1).tmod 65536 = md (next + 1) := by rw [Int.tmod_eq_emod_of_nonneg (by omega)]; rfl
    have hmd := md_lt (next + 1)
    have hw1 : IntKind.i64.wrap (next + 1) = next + 1 := IntWalk.i64_in _ (by omega)
    have hw2 : IntKind.i64.wrap ((next + 1).tmod 65536) = md (next + 1) := by rw [hm]; exact IntWalk.i64_in _ (by omega)
    have hw3 : (next + 1) % 65536 = md (next + 1) := rfl
    obtain ⟨i0, hi, hz0, hz1, hz2⟩ := info_parts infoInt'
    obtain ⟨j0, hj, hy0, hy1, hy2⟩ := info_parts infoStr
    have hpl := pushL_n next l s
    rw [← hln, ← hld] at hpl
    have HL1 := Lib.hid hpl.1
    have HL2 := Lib.hid hpl.2
    have hll1 : ln.length = l.length := by rw [hln]; simp
    have hll2 : ld.length = l.length := by rw [hld]; simp
    have HN1 : Hid (ln.length + 1 ≤ maxLen) := by show _ ≤ _; unfold maxLen; omega
    have HN2 : Hid ((ln.length + 1) * 8 ≤ 140737488355328) := by show _ ≤ _; omega
    have HD1 : Hid (ld.length + 1 ≤ maxLen) := by show _ ≤ _; unfold maxLen; omega
    have HD2 : Hid ((ld.length + 1) * 16 ≤ 140737488355328) := by show _ ≤ _; omega
    clear hpl
    cases hl : l with
    | nil =>
      rw [hl] at hll1 hll2 HL1 HL2
      have hlz : ln.length = 0 := hll1
      have hg0 : ¬ (0 : Int) < (ln.length : Int) := by omega
      have HE1 := Lib.hid (pushC_nil (next := next) hbd)
      have HT := Lib.hid h
      have HR := Lib.hid (TwoTo.same h (Below.refl w.heap.size w))
      clear h HH hln hld hll1 hll2 hl hlz
      go_enter Tryd.func11, Tryd.ntmps11
      have HOWN := Lib.hid HT.out.ownN
      obtain ⟨⟨c0, c1, c2⟩, cf⟩ := HT.out.cs
      have f1 := cf 1
      have BS := Lib.hid hbase
      have C5 := Lib.hid (fun (w5 : World) (o : Obj) (hg : (w.alloc o).grownBy w5 (Value.ownBlock (.slice na ln.length nc))) => show w5.cell? ⟨sb, 1, none⟩ = some (.slice na ln.length nc) ∧ w5.frozen? ⟨sb, 1, none⟩ = false from by
        have hcell := ((chg_app hg).block sb HT.out.lt HT.out.neN).trans HT.out.cells
        exact ⟨by simp [World.cell?, hcell], by simp [World.frozen?, hcell]⟩)
      have S5 := Lib.hid (fun (w5 : World) (o : Obj) (v' : Value) (hg : (w.alloc o).grownBy w5 (Value.ownBlock (.slice na ln.length nc))) (ho : w5.ownsRow base 3 1 v' (ln.length + 1) (intV ln ++ [.int .i64 next])) (ha : v'.ownBlock = Value.ownBlock (.slice na ln.length nc) ∨ v'.ownBlock = some (w.alloc o).heap.size) =>
        HT.out.setN (vN' := v') (ln' := ln ++ [next]) (chg_app hg) (by rw [intV_snoc, List.length_append]; exact ho) (at_app ha))
      clear cf
      go_wp2_with (at_builtin; refine Hid.out ?_)
      refine Lib.hid ?_
      refine wpList_append_own_at _ rfl (.tmp 36) (.tmp 38) 31 rfl base 3 i0 _ 1 8 Tryd.underlying31 hi hz0 hz1 hz2 rfl (by decide) (.slice na ln.length nc) ln.length (intV ln) rfl (HOWN.out.alloc _) ⟨w.heap.size, 0, none⟩ 1 1 [.int .i64 next] rfl rfl (one_news (by simp)) (one_cell rfl) HN1.out HN2.out (by have := BS.out; first | omega | (simp; omega)) ?_
      intro v' w5 hown5 hgrow _ hat
      obtain ⟨c5, f5⟩ := C5.out _ _ hgrow
      have ss5 := S5.out _ _ _ hgrow hown5 hat
      have T5 := Lib.hid ss5.1
      have R5 := Lib.hid ss5.2
      have B5 : Hid (base ≤ w5.heap.size) := (by have h9 := hgrow.size; have h8 := BS.out; simp at h9; show _ ≤ _; omega)
      obtain ⟨va, vc, rfl⟩ := owns_slice hown5
      obtain ⟨⟨e0, e1, e2⟩, ef⟩ := T5.out.cs
      clear hown5 hgrow hat ss5 e0 e1 ef C5 S5
      go_wp2_with (at_builtin; refine Hid.out ?_)
      refine Lib.hid ?_
      refine wpList_append_own_at _ rfl (.tmp 46) (.tmp 48) 32 rfl base 9 j0 _ 1 16 Tryd.underlying32 hj hy0 hy1 hy2 rfl (by decide) (.slice da ld.length dc) ld.length (txtV ld) rfl (T5.out.ownD.alloc _) ⟨w5.heap.size, 0, none⟩ 1 1 [.string (bs s)] rfl rfl (one_news (alloc_at1 (by simp [World.setCell]))) (one_cell rfl) HD1.out HD2.out (by have := B5.out; simp [World.setCell]; omega) ?_
      intro v'' w6 hown6 hgrow _ hat
      have hcell := ((chg_app hgrow).block sb T5.out.lt T5.out.neD).trans T5.out.cells
      have c6 : w6.cell? ⟨sb, 2, none⟩ = some (.slice da ld.length dc) := by simp [World.cell?, hcell]
      have f6 : w6.frozen? ⟨sb, 2, none⟩ = false := by simp [World.frozen?, hcell]
      have ss6 := T5.out.setD (vD' := v'') (ld' := ld ++ [s]) (chg_app hgrow) (by rw [txtV_snoc, List.length_append]; exact hown6) (at_app hat)
      have T6 := Lib.hid ss6.1
      have R6 := Lib.hid ss6.2
      obtain ⟨vb, vd, rfl⟩ := owns_slice hown6
      obtain ⟨⟨g0, g1, g2⟩, gf⟩ := T6.out.cs
      have h0 := gf 0
      clear hown6 hgrow hat ss6 g1 g2 gf hcell
      go_wp2_with fail
      go_ret2
      rw [HE1.out]
      refine ⟨rfl, ?_⟩
      have e1 : pushX 0 next = md (next + 1) := rfl
      rw [e1]
      refine HR.out.trans fun v1 v2 k1 => ?_
      obtain ⟨rfl, rfl⟩ := HT.out.same k1
      refine R5.out.trans fun v1 v2 k1 => ?_
      obtain ⟨rfl, rfl⟩ := T5.out.same k1
      refine R6.out.trans fun v1 v2 k1 => ?_
      obtain ⟨rfl, rfl⟩ := T6.out.same k1
      have e2 := T6.out.setX (md (next + 1))
      rw [HL1.out, HL2.out]
      exact e2.2
    | cons o l2 =>
      rw [hl] at hll1 hll2 HL1 HL2
      have ho := hk o (by rw [hl]; simp)
      have hlz : ln.length = l2.length + 1 := hll1
      rw [hl] at HH
      obtain ⟨na, rfl⟩ : ∃ a, na = some a := by
        rcases h.ownN.2 with ⟨e, e0⟩ | ⟨g, cap, cur, e, _⟩
        · omega
        · simp at e; exact ⟨_, e.1⟩
      have d0 : w.cell? na = some (.int .i64 o.n) := by
        obtain ⟨a2, n2, c2, e2, _, _, _, g2⟩ := (SliceIs.ownedK h.ownN).get
        cases e2
        obtain ⟨ad, e3, d3⟩ := g2 0 (.int .i64 o.n) (by rw [hln, hl]; rfl)
        cases e3
        have : na.add 0 = na := by obtain ⟨b, o, s⟩ := na; unfold Addr.add; cases s <;> rfl
        rwa [this] at d3
      have hg0 : (0 : Int) < (ln.length : Int) := by omega
      have hg00 : 0 < ln.length := by omega
      have hg1 : ¬ ln.length = 0 := by omega
      have DI := Lib.hid (fun w' => rdist_any o.n next w' ho ⟨hn1, hn2⟩)
      obtain ⟨⟨c0, c1, c2⟩, cf⟩ := h.cs
      by_cases hfull : 32 ≤ md (next - o.n)
      · have HE1 := Lib.hid (pushC_full (l := l2) hbd hfull)
        have HW := Lib.hid (fun (w' : World) (hd : Below w.heap.size w w') => TwoTo.same HH.out hd)
        generalize md (next - o.n) = z at *
        clear h hl hln hld hll1 hll2 hlz cf HL1 HL2 HN1 HN2 HD1 HD2
        go_enter Tryd.func11, Tryd.ntmps11
        go_wp2_with fail
        go_quiet ((go_at_call 25; first | exact Calls.quiet_of_same (DI.out _) | exact quiet_left (DI.out _) | exact quiet_add_left (DI.out _)))
        go_wp2_with fail
        go_ret2
        have e8 : pushL 8 next (o :: l2) s = o :: l2 := rfl
        rw [HE1.out]
        exact ⟨rfl, HW.out _ (by first | exact Below.refl _ _ | exact Drew.below (Drew.drewN _ _) _ | exact Drew.below ((Drew.drewN _ _).trans (Drew.drewN _ _)) _)⟩
      · have HE1 := Lib.hid (pushC_ok (l := l2) hbd hfull)
        have hfI : md (next - o.n) < 32 := by omega
        generalize md (next - o.n) = z at *
        clear hl hln hld hll1 hll2 hlz cf hfull
        go_enter Tryd.func11, Tryd.ntmps11
        go_wp2_with fail
        go_quiet ((go_at_call 25; first | exact Calls.quiet_of_same (DI.out _) | exact quiet_left (DI.out _) | exact quiet_add_left (DI.out _)))
        rename_i nq
        have HT := Lib.hid (h.drewN nq)
        have HR := Lib.hid (TwoTo.same h (Drew.below ⟨nq, rfl⟩ w.heap.size))
        have hbase : base ≤ (w.drewN nq).heap.size := hbase
        clear h HH c0 c1 c2 d0
        generalize w.drewN nq = W at *
        have HOWN := Lib.hid HT.out.ownN
        obtain ⟨⟨c0, c1, c2⟩, cf⟩ := HT.out.cs
        have f1 := cf 1
        have BS := Lib.hid hbase
        have C5 := Lib.hid (fun (w5 : World) (o : Obj) (hg : (W.alloc o).grownBy w5 (Value.ownBlock (.slice na ln.length nc))) => show w5.cell? ⟨sb, 1, none⟩ = some (.slice na ln.length nc) ∧ w5.frozen? ⟨sb, 1, none⟩ = false from by
          have hcell := ((chg_app hg).block sb HT.out.lt HT.out.neN).trans HT.out.cells
          exact ⟨by simp [World.cell?, hcell], by simp [World.frozen?, hcell]⟩)
        have S5 := Lib.hid (fun (w5 : World) (o : Obj) (v' : Value) (hg : (W.alloc o).grownBy w5 (Value.ownBlock (.slice na ln.length nc))) (ho : w5.ownsRow base 3 1 v' (ln.length + 1) (intV ln ++ [.int .i64 next])) (ha : v'.ownBlock = Value.ownBlock (.slice na ln.length nc) ∨ v'.ownBlock = some (W.alloc o).heap.size) =>
          HT.out.setN (vN' := v') (ln' := ln ++ [next]) (chg_app hg) (by rw [intV_snoc, List.length_append]; exact ho) (at_app ha))
        clear cf
        go_wp2_with (at_builtin; refine Hid.out ?_)
        refine Lib.hid ?_
        refine wpList_append_own_at _ rfl (.tmp 36) (.tmp 38) 31 rfl base 3 i0 _ 1 8 Tryd.underlying31 hi hz0 hz1 hz2 rfl (by decide) (.slice na ln.length nc) ln.length (intV ln) rfl (HOWN.out.alloc _) ⟨W.heap.size, 0, none⟩ 1 1 [.int .i64 next] rfl rfl (one_news (by simp)) (one_cell rfl) HN1.out HN2.out (by have := BS.out; first | omega | (simp; omega)) ?_
        intro v' w5 hown5 hgrow _ hat
        obtain ⟨c5, f5⟩ := C5.out _ _ hgrow
        have ss5 := S5.out _ _ _ hgrow hown5 hat
        have T5 := Lib.hid ss5.1
        have R5 := Lib.hid ss5.2
        have B5 : Hid (base ≤ w5.heap.size) := (by have h9 := hgrow.size; have h8 := BS.out; simp at h9; show _ ≤ _; omega)
        obtain ⟨va, vc, rfl⟩ := owns_slice hown5
        obtain ⟨⟨e0, e1, e2⟩, ef⟩ := T5.out.cs
        clear hown5 hgrow hat ss5 e0 e1 ef C5 S5
        go_wp2_with (at_builtin; refine Hid.out ?_)
        refine Lib.hid ?_
        refine wpList_append_own_at _ rfl (.tmp 46) (.tmp 48) 32 rfl base 9 j0 _ 1 16 Tryd.underlying32 hj hy0 hy1 hy2 rfl (by decide) (.slice da ld.length dc) ld.length (txtV ld) rfl (T5.out.ownD.alloc _) ⟨w5.heap.size, 0, none⟩ 1 1 [.string (bs s)] rfl rfl (one_news (alloc_at1 (by simp [World.setCell]))) (one_cell rfl) HD1.out HD2.out (by have := B5.out; simp [World.setCell]; omega) ?_
        intro v'' w6 hown6 hgrow _ hat
        have hcell := ((chg_app hgrow).block sb T5.out.lt T5.out.neD).trans T5.out.cells
        have c6 : w6.cell? ⟨sb, 2, none⟩ = some (.slice da ld.length dc) := by simp [World.cell?, hcell]
        have f6 : w6.frozen? ⟨sb, 2, none⟩ = false := by simp [World.frozen?, hcell]
        have ss6 := T5.out.setD (vD' := v'') (ld' := ld ++ [s]) (chg_app hgrow) (by rw [txtV_snoc, List.length_append]; exact hown6) (at_app hat)
        have T6 := Lib.hid ss6.1
        have R6 := Lib.hid ss6.2
        obtain ⟨vb, vd, rfl⟩ := owns_slice hown6
        obtain ⟨⟨g0, g1, g2⟩, gf⟩ := T6.out.cs
        have h0 := gf 0
        clear hown6 hgrow hat ss6 g1 g2 gf hcell
        go_wp2_with fail
        go_ret2
        rw [HE1.out]
        refine ⟨rfl, ?_⟩
        have e1 : pushX 0 next = md (next + 1) := rfl
        rw [e1]
        refine HR.out.trans fun v1 v2 k1 => ?_
        obtain ⟨rfl, rfl⟩ := HT.out.same k1
        refine R5.out.trans fun v1 v2 k1 => ?_
        obtain ⟨rfl, rfl⟩ := T5.out.same k1
        refine R6.out.trans fun v1 v2 k1 => ?_
        obtain ⟨rfl, rfl⟩ := T6.out.same k1
        have e2 := T6.out.setX (md (next + 1))
        rw [HL1.out, HL2.out]
        exact e2.2
end Go.Proofs.YtnjkopjbognpiaaDoor
