/- The document's (*Receiver).Take. The text written by program (gen_refrtake.py). -/
import Derived.Test.YtnjkopjbognpiaaDoorTwo2
namespace Go.Proofs.YtnjkopjbognpiaaDoor
open Go.RowKit
set_option linter.unusedVariables false

theorem chg_far {w a c : World} {S U : Nat → Prop} (h : Chg w a S) (k : Chg a c U) (hU : ∀ y, U y → S y ∨ w.heap.size ≤ y) : Chg w c S := h.trans k (fun y hy hu => (hU y hu).elim id (fun h2 => by omega))
theorem TwoL.foot {T : TypeId} {w : World} {base b : Nat} {vN vD : Value} {x : Int} {ln : List Int} {ld : List (List UInt8)} (h : TwoL T w base b vN vD x ln ld) {y : Nat} (hy : BFoot b vN vD y) : y < w.heap.size := by
  rcases hy with rfl | hy | hy
  · exact h.lt
  · exact (h.ownN.lt y hy).2
  · exact (h.ownD.lt y hy).2
theorem chg_is {w w1 : World} {v : Value} (hg : w.grownBy w1 v.ownBlock) : Chg w w1 (fun y => v.ownBlock = some y) := ⟨hg.os, hg.tape, hg.output, hg.size, fun k hk hn => hg.block k hk (fun e => hn e.symm)⟩
theorem at_is {w : World} {v v' : Value} (h : v'.ownBlock = v.ownBlock ∨ v'.ownBlock = some w.heap.size) : ∀ y, v'.ownBlock = some y → v.ownBlock = some y ∨ w.heap.size ≤ y := fun y hy => by
  rcases h with h | h
  · rw [h] at hy; exact .inl hy
  · rw [h] at hy; right; simp at hy; omega
theorem below_nil {w w1 : World} (hg : w.grownBy w1 none) : Below w.heap.size w w1 := (Below.refl w.heap.size w).grown hg (Nat.le_refl _) (fun k h => by cases h)
theorem intV_take (l : List Int) (k : Nat) : (intV l).take k = intV (l.take k) := by unfold intV; rw [List.map_take]
theorem intV_drop (l : List Int) (k : Nat) : (intV l).drop k = intV (l.drop k) := by unfold intV; rw [List.map_drop]
theorem txtV_take (l : List (List UInt8)) (k : Nat) : (txtV l).take k = txtV (l.take k) := by unfold txtV; rw [List.map_take]
theorem txtV_drop (l : List (List UInt8)) (k : Nat) : (txtV l).drop k = txtV (l.drop k) := by unfold txtV; rw [List.map_drop]
theorem intV_app (a b : List Int) : intV (a ++ b) = intV a ++ intV b := by unfold intV; simp
theorem txtV_app (a b : List (List UInt8)) : txtV (a ++ b) = txtV a ++ txtV b := by unfold txtV; simp
theorem one_int : ∀ l : List Int, ∀ u ∈ intV l, u.oneCell' = true := fun l u hu => by unfold intV at hu; obtain ⟨x, _, rfl⟩ := List.mem_map.1 hu; rfl
theorem one_txt : ∀ l : List (List UInt8), ∀ u ∈ txtV l, u.oneCell' = true := fun l u hu => by unfold txtV at hu; obtain ⟨x, _, rfl⟩ := List.mem_map.1 hu; rfl
theorem erase_map {α : Type} (f : PK → α) (l : List PK) (j : Nat) : (l.eraseIdx j).map f = (l.map f).take j ++ (l.map f).drop (j + 1) := by
  rw [List.eraseIdx_eq_take_drop_succ, List.map_append, List.map_take, List.map_drop]
theorem uInts : Tryd.prog.underlying 31 = some (.slice (Tryd.prog.elem 31)) := by kernel_rfl
theorem zInts : ∀ w' : World, (sizeOf (Tryd.prog.elem 31)).run Tryd.prog w' = .ok 1 w' := fun w' => by kernel_rfl
theorem uStrs : Tryd.prog.underlying 32 = some (.slice (Tryd.prog.elem 32)) := by kernel_rfl
theorem zStrs : ∀ w' : World, (sizeOf (Tryd.prog.elem 32)).run Tryd.prog w' = .ok 1 w' := fun w' => by kernel_rfl
theorem drainD_step {F f : Nat} {due0 due : Int} {l0 l : List PK} {done : List (List UInt8)} {j : Nat} {x : PK} (h : drainD F due0 l0 = (done ++ (drainD (f + 1) due l).1, (drainD (f + 1) due l).2)) (hd : dix l due = j) (hx : l[j]? = some x) :
    drainD F due0 l0 = ((done ++ [x.d]) ++ (drainD f (md (due + 1)) (l.eraseIdx j)).1, (drainD f (md (due + 1)) (l.eraseIdx j)).2) := by
  rw [h, drainD_yes (by omega), hd, Int.toNat_natCast, dat_at hx]
  simp
/-- what is told of a frame that is kept -/
def Told (F : Nat) (base rb : Nat) (vN vD : Value) (due : Int) (l0 : List PK) (w w' : World) (r : Value) : Prop :=
  w'.ownsRow w.heap.size 9 1 r (drainD F due l0).1.length (txtV (drainD F due l0).1) ∧ TwoTo 37 w w' base rb vN vD (drainD F due l0).2.1 ((drainD F due l0).2.2.map PK.n) ((drainD F due l0).2.2.map PK.d)
structure RLoop (F base rb : Nat) (vN vD : Value) (due : Int) (l0 : List PK) (w wr : World) (o : Value) (done : List (List UInt8)) (due' : Int) (l' : List PK) (f : Nat) (xN xD : Value) : Prop where
  box : TwoL 37 wr base rb xN xD due' (l'.map PK.n) (l'.map PK.d)
  dub : 0 ≤ due' ∧ due' < 65536
  own : wr.ownsRow w.heap.size 9 1 o done.length (txtV done)
  far : ∀ y, o.ownBlock = some y → ¬ BFoot rb xN xD y
  chg : Chg w wr (BFoot rb vN vD)
  ft : ∀ y, BFoot rb xN xD y → BFoot rb vN vD y ∨ w.heap.size ≤ y
  dr : drainD F due l0 = (done ++ (drainD f due' l').1, (drainD f due' l').2)
  fit : l'.length ≤ f ∧ f + done.length = F
set_option maxRecDepth 100000 in
set_option maxHeartbeats 12800000 in
theorem rdtake_any (F base rb : Nat) (vN vD : Value) (due n : Int) (l : List PK) (s : List UInt8) (w : World) (h : TwoL 37 w base rb vN vD due (l.map PK.n) (l.map PK.d)) (hd : 0 ≤ due ∧ due < 65536) (hs : s.length ≤ maxLen) (hlen : l.length ≤ 10000) (hF : l.length + 1 ≤ F) (hF2 : F ≤ 20000) (hbase : base ≤ w.heap.size) :
    Calls Tryd.prog 19 #[.pointer (some ⟨rb, 0, none⟩), .int .i64 n, .string (bs s)] w fun e w' => ∃ r, e = .returned r ∧ w'.ownsRow w.heap.size 9 1 r (takeD F due l n s).1.length (txtV (takeD F due l n s).1) ∧
      TwoTo 37 w w' base rb vN vD (takeD F due l n s).2.1 ((takeD F due l n s).2.2.map PK.n) ((takeD F due l n s).2.2.map PK.d) := by
  obtain ⟨⟨c0, c1, c2⟩, cf⟩ := h.cs
  have SQ := Lib.hid (fun w' => calls_flip (risSeq_any n w'))
  have NO : Hid (takeD F due l n s = ([], due, l) → ∃ r, Ending.returned (.slice none 0 0) = .returned r ∧ w.ownsRow w.heap.size 9 1 r (takeD F due l n s).1.length (txtV (takeD F due l n s).1) ∧ TwoTo 37 w w base rb vN vD (takeD F due l n s).2.1 ((takeD F due l n s).2.2.map PK.n) ((takeD F due l n s).2.2.map PK.d)) := Lib.hid fun e => by
    rw [e]
    exact ⟨_, rfl, World.ownsRow_nil _ _ _ _, TwoTo.same h (Below.refl _ _)⟩
  by_cases hq : wlB n = true
  · have hnb := wlB_true hq
    have PL := Lib.hid (calls_flip (place_any rb vN vD due (l.map PK.n) n w h.cells (SliceIs.ownedK h.ownN)))
    have DI := Lib.hid (calls_flip (rdist_any due n w hd hnb))
    rw [show plI (l.map PK.n) n 0 = dix l n from rfl] at PL
    rw [hq] at SQ
    by_cases hp : 0 ≤ dix l n
    · have HN := Lib.hid (NO.out (takeD_no (fun h => h.2.1 hp)))
      generalize dix l n = z at *
      clear NO h hq cf
      go_enter Tryd.func19, Tryd.ntmps19
      go_wp2_with fail
      refine (SQ.out _).mono ?_
      rintro e w1 ⟨rfl, rfl⟩
      go_wp2_with fail
      refine PL.out.mono ?_
      rintro e w1 ⟨rfl, rfl⟩
      go_wp2_with fail
      go_ret
      exact HN.out
    · have hpI : dix l n < 0 := by omega
      by_cases hfar : md (n - due) < 32
      · have hfI : ¬ 32 ≤ md (n - due) := by omega
        have TK := takeD_yes (F := F) (s := s) ⟨hq, hp, hfar⟩
        rw [TK]
        obtain ⟨na, nc, rfl⟩ := owns_slice h.ownN
        obtain ⟨da, dc, rfl⟩ := owns_slice h.ownD
        obtain ⟨i0, hi, hz0, hz1, hz2⟩ := info_parts infoInt'
        obtain ⟨j0, hjj, hy0, hy1, hy2⟩ := info_parts infoStr
        have hm1 : (l.map PK.n).length = l.length := by simp
        have hm2 : (l.map PK.d).length = l.length := by simp
        have HL1 : Hid ((l ++ [(⟨n, s⟩ : PK)]).map PK.n = l.map PK.n ++ [n]) := Lib.hid (by simp)
        have HL2 : Hid ((l ++ [(⟨n, s⟩ : PK)]).map PK.d = l.map PK.d ++ [s]) := Lib.hid (by simp)
        have HFL : Hid ((l ++ [(⟨n, s⟩ : PK)]).length ≤ F) := Lib.hid (by simpa using hF)
        clear TK NO cf c0 c2
        generalize hln : l.map PK.n = ln at *
        generalize hld : l.map PK.d = ld at *
        generalize hl0 : l ++ [(⟨n, s⟩ : PK)] = l0 at *
        have HN1 : Hid (ln.length + 1 ≤ maxLen) := by show _ ≤ _; unfold maxLen; omega
        have HN2 : Hid ((ln.length + 1) * 8 ≤ 140737488355328) := by show _ ≤ _; omega
        have HD1 : Hid (ld.length + 1 ≤ maxLen) := by show _ ≤ _; unfold maxLen; omega
        have HD2 : Hid ((ld.length + 1) * 16 ≤ 140737488355328) := by show _ ≤ _; omega
        have HT := Lib.hid h
        have HOWN := Lib.hid h.ownN
        obtain ⟨⟨c0, c1, c2⟩, cf⟩ := HT.out.cs
        have f1 := cf 1
        generalize dix l n = z at *
        generalize md (n - due) = zz at *
        clear h cf hq hp hfar hln hld hl0 hm1 hm2 hF hlen
        go_enter Tryd.func19, Tryd.ntmps19
        go_wp2_with fail
        refine (SQ.out _).mono ?_
        rintro e w1 ⟨rfl, rfl⟩
        go_wp2_with fail
        refine PL.out.mono ?_
        rintro e w1 ⟨rfl, rfl⟩
        go_wp2_with fail
        refine DI.out.mono ?_
        rintro e w1 ⟨rfl, rfl⟩
        go_wp2_with (at_builtin; refine Hid.out ?_)
        refine Lib.hid ?_
        refine wpList_append_own_at _ rfl (.tmp 33) (.tmp 35) 31 rfl base 3 i0 _ 1 8 Tryd.underlying31 hi hz0 hz1 hz2 rfl (by decide) (.slice na ln.length nc) ln.length (intV ln) rfl (HOWN.out.alloc _) ⟨w.heap.size, 0, none⟩ 1 1 [.int .i64 n] rfl rfl (one_news (by simp)) (one_cell rfl) HN1.out HN2.out (by have := hbase; first | omega | (simp; omega)) ?_
        intro v' w5 hown5 hgrow _ hat
        have hcell := ((chg_app hgrow).block rb HT.out.lt HT.out.neN).trans HT.out.cells
        have c5 : w5.cell? ⟨rb, 1, none⟩ = some (.slice na ln.length nc) := by simp [World.cell?, hcell]
        have f5 : w5.frozen? ⟨rb, 1, none⟩ = false := by simp [World.frozen?, hcell]
        have ss5 := HT.out.setN (vN' := v') (ln' := ln ++ [n]) (chg_app hgrow) (by rw [intV_snoc, List.length_append]; exact hown5) (at_app hat)
        have T5 := Lib.hid ss5.1
        have R5 := Lib.hid ss5.2
        have B5 : Hid (base ≤ w5.heap.size) := (by have h9 := hgrow.size; simp at h9; show _ ≤ _; omega)
        obtain ⟨va, vc, rfl⟩ := owns_slice hown5
        obtain ⟨⟨e0, e1, e2⟩, ef⟩ := T5.out.cs
        clear hown5 hgrow hat ss5 e0 e1 ef c0 c1 c2 f1 hcell
        go_wp2_with (at_builtin; refine Hid.out ?_)
        refine Lib.hid ?_
        refine wpList_append_own_at _ rfl (.tmp 43) (.tmp 45) 32 rfl base 9 j0 _ 1 16 Tryd.underlying32 hjj hy0 hy1 hy2 rfl (by decide) (.slice da ld.length dc) ld.length (txtV ld) rfl (T5.out.ownD.alloc _) ⟨w5.heap.size, 0, none⟩ 1 1 [.string (bs s)] rfl rfl (one_news (alloc_at1 (by simp [World.setCell]))) (one_cell rfl) HD1.out HD2.out (by have := B5.out; simp [World.setCell]; omega) ?_
        intro v'' w6 hown6 hgrow _ hat
        have hcell := ((chg_app hgrow).block rb T5.out.lt T5.out.neD).trans T5.out.cells
        have c6 : w6.cell? ⟨rb, 2, none⟩ = some (.slice da ld.length dc) := by simp [World.cell?, hcell]
        have f6 : w6.frozen? ⟨rb, 2, none⟩ = false := by simp [World.frozen?, hcell]
        have ss6 := T5.out.setD (vD' := v'') (ld' := ld ++ [s]) (chg_app hgrow) (by rw [txtV_snoc, List.length_append]; exact hown6) (at_app hat)
        have R6 : Hid (TwoTo 37 w (w6.setCell ⟨rb, 2, none⟩ v'') base rb (.slice na ln.length nc) (.slice da ld.length dc) due (l0.map PK.n) (l0.map PK.d)) := Lib.hid (by
          rw [HL1.out, HL2.out]
          exact R5.out.trans fun v1 v2 k1 => by
            obtain ⟨rfl, rfl⟩ := T5.out.same k1
            exact ss6.2)
        obtain ⟨vb, vd, rfl⟩ := owns_slice hown6
        clear hown6 hgrow hat ss6 hcell T5 R5 B5 e2 HT HOWN
        go_wp2_with fail
        go_loopw [8, 9, 10, 11] (fun o _ _ _ wr => ∃ (done : List (List UInt8)) (due' : Int) (l' : List PK) (f : Nat) (xN xD : Value), RLoop F base rb (.slice na ln.length nc) (.slice da ld.length dc) due l0 w wr o done due' l' f xN xD) (fun o _ _ _ _ => F - lenOf o)
        case atStart =>
          obtain ⟨xN, xD, k1, k2, k3⟩ := R6.out
          exact ⟨[], due, l0, F, xN, xD, k1, hd, World.ownsRow_nil _ _ _ _, (fun y h => by simp [Value.ownBlock] at h), k2, k3, by simp, HFL.out, by simp⟩
        case round =>
          obtain ⟨done, due', l', f, xN, xD, RL⟩ := hrel
          have HRL := Lib.hid RL
          have hdu := RL.dub
          have hfit := RL.fit
          obtain ⟨⟨c0, c1, c2⟩, _⟩ := RL.box.cs
          have PL2 := Lib.hid (calls_flip (place_any rb xN xD due' (l'.map PK.n) due' wr RL.box.cells (SliceIs.ownedK RL.box.ownN)))
          rw [show plI (l'.map PK.n) due' 0 = dix l' due' from rfl] at PL2
          by_cases hp : 0 ≤ dix l' due'
          · obtain ⟨j, x, hj, hx, hxn⟩ := dix_at hp
            have hjl := (List.getElem?_eq_some_iff.1 hx).1
            obtain ⟨f2, rfl⟩ : ∃ f2, f = f2 + 1 := ⟨f - 1, by omega⟩
            have HST := Lib.hid (drainD_step RL.dr hj hx)
            have hel : (l'.eraseIdx j).length + 1 = l'.length := by rw [List.length_eraseIdx, if_pos hjl]; omega
            have HEN := Lib.hid (erase_map PK.n l' j)
            have HED := Lib.hid (erase_map PK.d l' j)
            have hmn : (l'.map PK.n).length = l'.length := by simp
            have hmd : (l'.map PK.d).length = l'.length := by simp
            have HXD : Hid ((l'.map PK.d)[j]? = some x.d) := Lib.hid (by rw [List.getElem?_map, hx]; rfl)
            rw [hj] at PL2
            obtain ⟨oa, oc, rfl⟩ := owns_slice RL.own
            obtain ⟨pa, pc, rfl⟩ := owns_slice RL.box.ownN
            obtain ⟨qa, qc, rfl⟩ := owns_slice RL.box.ownD
            have BX := Lib.hid RL.box
            have FAR := Lib.hid RL.far
            have OWN := Lib.hid RL.own
            have FIT := Lib.hid hel
            obtain ⟨M, hM⟩ : ∃ M, M = l'.length := ⟨_, rfl⟩
            rw [hmn] at c1 BX FAR
            rw [hmd] at c2 BX FAR
            rw [← hM] at c1 c2 BX FAR hfit hjl FIT hmn hmd
            clear RL hp hj hx
            obtain ⟨xn, xd⟩ := x
            simp only at hxn HST HXD
            subst hxn
            generalize hDL : l'.map PK.d = DL at *
            generalize hNL : l'.map PK.n = NL at *
            obtain ⟨ad, rfl, d0⟩ : ∃ ad, qa = some ad ∧ wr.cell? (ad.add j) = some (.string (bs xd)) := by
              obtain ⟨a2, n2, c2', e2, _, _, _, g2⟩ := (SliceIs.ownedK BX.out.ownD).get
              cases e2
              exact g2 j (.string (bs xd)) (by unfold txtV; rw [List.getElem?_map, HXD.out]; rfl)
            have y1 : (0 : Int) ≤ j := by omega
            have y2 : (j : Int).toNat = j := by omega
            have y3 : (j : Int) < M := by omega
            have y4 : IntKind.i64.wrap ((j : Int) + 1) = (j : Int) + 1 := IntWalk.i64_in _ (by omega)
            have y5 : ¬ (j : Int) < 0 := by omega
            have hpc : M ≤ pc ∧ M ≤ qc := by
              obtain ⟨_, _, _, e2, _, h2, _⟩ := (SliceIs.ownedK BX.out.ownN).get
              obtain ⟨_, _, _, e4, _, h4, _⟩ := (SliceIs.ownedK BX.out.ownD).get
              cases e2; cases e4
              exact ⟨h2, h4⟩
            have y7 : j ≤ pc := by omega
            have y8 : j ≤ qc := by omega
            have y9 : (j : Int) ≤ pc := by omega
            have y10 : (j : Int) ≤ qc := by omega
            have y11 : j + 1 ≤ M := by omega
            have y12 : (j : Int) + 1 ≤ M := by omega
            have HPC := Lib.hid hpc
            clear hpc
            have O1 : Hid (done.length + 1 ≤ maxLen) := by show _ ≤ _; unfold maxLen; omega
            have O2 : Hid ((done.length + 1) * 16 ≤ 140737488355328) := by show _ ≤ _; omega
            have SN := Lib.hid (fun (w' : World) (hb : TwoL 37 w' base rb (.slice pa M pc) (.slice (some ad) M qc) xn NL DL) => And.intro (slice_take1 uInts zInts (SliceIs.ownedK hb.ownN) j (by omega)) (slice_drop1 uInts zInts (SliceIs.ownedK hb.ownN) (j + 1) (by omega)))
            have SD := Lib.hid (fun (w' : World) (hb : TwoL 37 w' base rb (.slice pa M pc) (.slice (some ad) M qc) xn NL DL) => And.intro (slice_take1 uStrs zStrs (SliceIs.ownedK hb.ownD) j (by omega)) (slice_drop1 uStrs zStrs (SliceIs.ownedK hb.ownD) (j + 1) (by omega)))
            go_wp2_with fail
            refine PL2.out.mono ?_
            rintro e w2 ⟨rfl, rfl⟩
            clear PL2
            go_wp2_with (at_builtin; refine Hid.out ?_)
            refine Lib.hid ?_
            refine wpList_append_own_at _ rfl (.tmp 58) (.tmp 66) 32 rfl w.heap.size 9 j0 _ 1 16 Tryd.underlying32 hjj hy0 hy1 hy2 rfl (by decide) (.slice oa done.length oc) done.length (txtV done) rfl (OWN.out.alloc _) ⟨wr.heap.size, 0, none⟩ 1 1 [.string (bs xd)] rfl rfl (one_news (by simp)) (one_cell rfl) O1.out O2.out (by have := HRL.out.chg.size; simp; omega) ?_
            intro v1 w1 own1 g1 _ a1
            have CH1 := chg_app g1
            have hs01 := CH1.size
            have T1 := Lib.hid (BX.out.kept CH1 (fun y hy hn => FAR.out y hn hy))
            have HO1 := Lib.hid own1
            have HA1 := Lib.hid (at_app a1)
            have HC1 := Lib.hid CH1
            obtain ⟨⟨c0, c1, c2⟩, _⟩ := T1.out.cs
            obtain ⟨v1a, v1c, rfl⟩ := owns_slice own1
            obtain ⟨⟨sn1, sn2⟩, _⟩ := SN.out _ T1.out
            have SN2 := Lib.hid sn2
            clear own1 g1 a1 CH1 d0 sn2
            go_wp2_with (at_builtin; refine Hid.out ?_)
            refine Lib.hid ?_
            have hsz1 : w.heap.size ≤ w1.heap.size := Nat.le_trans HRL.out.chg.size hs01
            have LJ : Hid (0 + j ≤ maxLen) := by show _ ≤ _; unfold maxLen; omega
            have LJ8 : Hid ((0 + j) * 8 ≤ 140737488355328) := by show _ ≤ _; omega
            have LJ16 : Hid ((0 + j) * 16 ≤ 140737488355328) := by show _ ≤ _; omega
            have LM : Hid (j + (M - (j + 1)) ≤ maxLen) := by show _ ≤ _; unfold maxLen; omega
            have LM8 : Hid ((j + (M - (j + 1))) * 8 ≤ 140737488355328) := by show _ ≤ _; omega
            have LM16 : Hid ((j + (M - (j + 1))) * 16 ≤ 140737488355328) := by show _ ≤ _; omega
            have NLl : NL.length = M := by rw [← hNL, List.length_map, hM]
            have DLl : DL.length = M := by rw [← hDL, List.length_map, hM]
            have LN1 : Hid (((intV NL).take j).length = j * 1) := Lib.hid (by rw [List.length_take, intV_len]; omega)
            have LD1 : Hid (((txtV DL).take j).length = j * 1) := Lib.hid (by rw [List.length_take, txtV_len]; omega)
            have LN2 : Hid (((intV NL).drop (j + 1)).length = (M - (j + 1)) * 1) := Lib.hid (by rw [List.length_drop, intV_len]; omega)
            have LD2 : Hid (((txtV DL).drop (j + 1)).length = (M - (j + 1)) * 1) := Lib.hid (by rw [List.length_drop, txtV_len]; omega)
            have OC1 : Hid (∀ u ∈ (intV NL).take j, u.oneCell' = true) := Lib.hid fun u hu => one_int NL u (List.mem_of_mem_take hu)
            have OD1 : Hid (∀ u ∈ (txtV DL).take j, u.oneCell' = true) := Lib.hid fun u hu => one_txt DL u (List.mem_of_mem_take hu)
            have OC2 : Hid (∀ u ∈ (intV NL).drop (j + 1), u.oneCell' = true) := Lib.hid fun u hu => one_int NL u (List.mem_of_mem_drop hu)
            have OD2 : Hid (∀ u ∈ (txtV DL).drop (j + 1), u.oneCell' = true) := Lib.hid fun u hu => one_txt DL u (List.mem_of_mem_drop hu)
            have NIL1 := Lib.hid (World.ownsRow_nil w1 w1.heap.size 3 1)
            have FT1 := Lib.hid (fun y (hy : BFoot rb (.slice pa M pc) (.slice (some ad) M qc) y) => T1.out.foot hy)
            clear sn1 NLl DLl hNL hDL hM hmn hmd
            refine wpList_append_is rfl (.tmp 68) (.tmp 74) 31 rfl w1.heap.size 3 i0 _ 1 8 Tryd.underlying31 hi hz0 hz1 hz2 rfl (by decide) (.slice none 0 0) 0 [] rfl NIL1.out (.slice pa j pc) j ((intV NL).take j) rfl SN2.out LN1.out OC1.out LJ.out LJ8.out (Nat.le_refl _) ?_
            intro v2 w2 own2 g2 _
            rw [Nat.zero_add, List.nil_append] at own2
            have B2 := Lib.hid (below_nil g2)
            have HO2 := Lib.hid own2
            have T2 := Lib.hid (T1.out.below B2.out)
            obtain ⟨⟨c0, c1, c2⟩, _⟩ := T2.out.cs
            obtain ⟨_, ⟨sd1, sd2⟩, _⟩ := And.intro True.intro (SD.out _ T2.out)
            have SD2 := Lib.hid sd2
            have NIL2 := Lib.hid (World.ownsRow_nil w2 w2.heap.size 9 1)
            obtain ⟨v2a, v2c, rfl⟩ := owns_slice own2
            clear own2 g2 sd1 sd2
            go_wp2_with (at_builtin; refine Hid.out ?_)
            refine Lib.hid ?_
            refine wpList_append_is rfl (.tmp 76) (.tmp 82) 32 rfl w2.heap.size 9 j0 _ 1 16 Tryd.underlying32 hjj hy0 hy1 hy2 rfl (by decide) (.slice none 0 0) 0 [] rfl NIL2.out (.slice (some ad) j qc) j ((txtV DL).take j) rfl SD2.out LD1.out OD1.out LJ.out LJ16.out (Nat.le_refl _) ?_
            intro v3 w3 own3 g3 _
            rw [Nat.zero_add, List.nil_append] at own3
            have B3 := Lib.hid (below_nil g3)
            have HO3 := Lib.hid own3
            have HO23 := Lib.hid (owns_below HO2.out B3.out)
            have T3 := Lib.hid (T2.out.below B3.out)
            obtain ⟨⟨c0, c1, c2⟩, _⟩ := T3.out.cs
            obtain ⟨_, sH, sh1, sh2⟩ := SN.out _ T3.out
            rw [show ((j + 1 : Nat) : Int) = (j : Int) + 1 by omega] at sh1
            have SH2 := Lib.hid sh2
            obtain ⟨v3a, v3c, rfl⟩ := owns_slice own3
            clear own3 g3 sh2
            go_wp2_with (at_builtin; refine Hid.out ?_)
            refine Lib.hid ?_
            refine wpList_append_is rfl (.tmp 85) (.tmp 92) 31 rfl w1.heap.size 3 i0 _ 1 8 Tryd.underlying31 hi hz0 hz1 hz2 rfl (by decide) (.slice v2a j v2c) j ((intV NL).take j) rfl HO23.out (.slice sH (M - (j + 1)) (pc - (j + 1))) (M - (j + 1)) ((intV NL).drop (j + 1)) rfl SH2.out LN2.out OC2.out LM.out LM8.out (Nat.le_trans B2.out.size B3.out.size) ?_
            intro v4 w4 own4 g4 a4
            have CH4 := chg_is g4
            have HS3 : Hid (w1.heap.size ≤ w3.heap.size) := Lib.hid (Nat.le_trans B2.out.size B3.out.size)
            have T4 := Lib.hid (T3.out.kept CH4 (fun y hy hn => by have := FT1.out y hy; have := own_base HO23.out hn; omega))
            have A4 : Hid (∀ y, v4.ownBlock = some y → w1.heap.size ≤ y) := Lib.hid fun y hy => by
              rcases at_is a4 y hy with h1 | h1
              · exact own_base HO23.out h1
              · have := HS3.out; omega
            have A4B : Hid (∀ y, v4.ownBlock = some y → y < w2.heap.size ∨ w3.heap.size ≤ y) := Lib.hid fun y hy => by
              rcases at_is a4 y hy with h1 | h1
              · exact .inl (HO2.out.lt y h1).2
              · exact .inr h1
            obtain ⟨v3b, hv3b⟩ : ∃ b, b = Value.ownBlock (.slice v3a j v3c) := ⟨_, rfl⟩
            have FL : Hid ((l'.eraseIdx j).length = j + (M - (j + 1))) := Lib.hid (by have := FIT.out; omega)
            have HO4 : Hid (w4.ownsRow base 3 1 v4 ((l'.eraseIdx j).map PK.n).length (intV ((l'.eraseIdx j).map PK.n))) := Lib.hid (by
              rw [List.length_map, FL.out, HEN.out, intV_app, ← intV_take, ← intV_drop]
              exact owns_mono' own4 (by omega))
            have T5 := Lib.hid (T4.out.putN (vN' := v4) HO4.out (fun e => by have := A4.out rb e; have := FT1.out rb (.inl rfl); omega) (fun g e e2 => by have := A4.out g e; have := FT1.out g (.inr (.inr e2)); omega))
            have HO34 := Lib.hid (own_other HO3.out CH4 (fun y hy hn => by have := own_base HO3.out hy; have := (HO2.out.lt y hn).2; omega))
            have HC4 := Lib.hid CH4
            obtain ⟨⟨_, c4, _⟩, cf4⟩ := T4.out.cs
            have f4 := cf4 1
            obtain ⟨⟨c0, c1', c2⟩, _⟩ := T5.out.cs
            have HO35 := Lib.hid (own_other HO34.out ((Chg.refl w4 (fun y => y = rb)).set ⟨rb, 1, none⟩ (.inl rfl) v4) (fun y hy e => by have := own_base HO3.out hy; have := FT1.out rb (.inl rfl); have := B2.out.size; omega))
            obtain ⟨sE, se1, se2⟩ := slice_drop1 uStrs zStrs (SliceIs.ownedK T5.out.ownD) (j + 1) (by omega)
            rw [show ((j + 1 : Nat) : Int) = (j : Int) + 1 by omega] at se1
            have SE2 := Lib.hid se2
            obtain ⟨v4a, v4n, v4c, rfl⟩ : ∃ a n c, v4 = .slice a n c := by
              obtain ⟨a, c, e⟩ := owns_slice own4
              exact ⟨a, _, c, e⟩
            have B4s := HC4.out.size
            have HB5 : Hid (w2.heap.size ≤ w4.heap.size) := Lib.hid (Nat.le_trans B3.out.size B4s)
            clear own4 g4 a4 CH4 sh1 c1' cf4 se2 B4s
            go_wp2_with (at_builtin; refine Hid.out ?_)
            refine Lib.hid ?_
            refine wpList_append_is rfl (.tmp 97) (.tmp 104) 32 rfl w2.heap.size 9 j0 _ 1 16 Tryd.underlying32 hjj hy0 hy1 hy2 rfl (by decide) (.slice v3a j v3c) j ((txtV DL).take j) rfl HO35.out (.slice sE (M - (j + 1)) (qc - (j + 1))) (M - (j + 1)) ((txtV DL).drop (j + 1)) rfl SE2.out LD2.out OD2.out LM.out LM16.out (by have := HB5.out; simpa [World.setCell] using this) ?_
            intro v6 w6 own6 g6 a6
            have CH6 := chg_is g6
            have T6 := Lib.hid (T5.out.kept CH6 (fun y hy hn => by
              have h1 := own_base HO3.out hn
              have h2 := B2.out.size
              have h3 := (HO3.out.lt y hn).2
              rcases hy with rfl | hy | hy
              · have := FT1.out y (.inl rfl); omega
              · have := A4B.out y hy; omega
              · have := FT1.out y (.inr (.inr hy)); omega))
            have A6 : Hid (∀ y, v6.ownBlock = some y → v3b = some y ∨ w4.heap.size ≤ y) := Lib.hid fun y hy => by
              rcases at_is a6 y hy with h1 | h1
              · exact .inl (by rw [hv3b]; exact h1)
              · right; simpa [World.setCell] using h1
            have HO6 : Hid (w6.ownsRow base 9 1 v6 ((l'.eraseIdx j).map PK.d).length (txtV ((l'.eraseIdx j).map PK.d))) := Lib.hid (by
              rw [List.length_map, FL.out, HED.out, txtV_app, ← txtV_take, ← txtV_drop]
              exact owns_mono' own6 (by have := B2.out.size; omega))
            have A6L : Hid (∀ y, v6.ownBlock = some y → w2.heap.size ≤ y) := Lib.hid fun y hy => by
              rcases A6.out y hy with h1 | h1
              · exact own_base HO3.out (by rw [← hv3b]; exact h1)
              · have := HB5.out; omega
            have T7 := Lib.hid (T6.out.putD (vD' := v6) HO6.out (fun e => by have := A6L.out rb e; have := FT1.out rb (.inl rfl); have := B2.out.size; omega) (fun g e e2 => by
              rcases A6.out g e2 with h1 | h1
              · have h3 := HO3.out.lt g (by rw [← hv3b]; exact h1)
                have := A4B.out g e
                omega
              · have := (HO4.out.lt g e).2
                omega))
            have T8 := Lib.hid (T7.out.setX (md (xn + 1))).1
            obtain ⟨⟨_, _, c6⟩, cf6⟩ := T6.out.cs
            have f6' := cf6 2
            obtain ⟨⟨c7, _, _⟩, cf7⟩ := T7.out.cs
            have f7 := cf7 0
            have HC6 := Lib.hid CH6
            obtain ⟨v6a, v6n, v6c, rfl⟩ : ∃ a n c, v6 = .slice a n c := by
              obtain ⟨a, c, e⟩ := owns_slice own6
              exact ⟨a, _, c, e⟩
            have CHT : Hid (Chg w3 (((w6.setCell ⟨rb, 2, none⟩ (.slice v6a v6n v6c)).setCell ⟨rb, 0, none⟩ (.int .i64 (md (xn + 1))))) (fun y => w1.heap.size ≤ y ∨ y = rb)) := Lib.hid (by
              have k1 := (HC4.out.more (T := fun y => w1.heap.size ≤ y ∨ y = rb) (fun y _ hy => .inl (own_base HO23.out hy))).set ⟨rb, 1, none⟩ (.inl (.inr rfl)) (.slice v4a v4n v4c)
              have k2 := k1.trans (HC6.out.more (T := fun y => w1.heap.size ≤ y ∨ y = rb) (fun y _ hy => .inl (by have := own_base HO3.out hy; have := B2.out.size; omega))) (fun y _ hy => hy)
              exact (k2.set ⟨rb, 2, none⟩ (.inl (.inr rfl)) _).set ⟨rb, 0, none⟩ (.inl (.inr rfl)) _)
            have OB : Hid (∀ y, Value.ownBlock (.slice v1a (done.length + 1) v1c) = some y → y < w1.heap.size ∧ y ≠ rb) := Lib.hid fun y hy => by
              refine ⟨(HO1.out.lt y hy).2, fun e => ?_⟩
              rcases HA1.out y hy with h1 | h1
              · exact FAR.out y h1 (.inl e)
              · have := BX.out.lt; omega
            have OFIN : Hid ((((w6.setCell ⟨rb, 2, none⟩ (.slice v6a v6n v6c)).setCell ⟨rb, 0, none⟩ (.int .i64 (md (xn + 1))))).ownsRow w.heap.size 9 1 (.slice v1a (done.length + 1) v1c) (done ++ [xd]).length (txtV (done ++ [xd]))) := Lib.hid (by
              rw [txtV_snoc, List.length_append]
              refine own_other (owns_below (owns_below HO1.out B2.out) B3.out) CHT.out (fun y hy hs => ?_)
              have := OB.out y hy
              omega)
            have CFIN : Hid (Chg w (((w6.setCell ⟨rb, 2, none⟩ (.slice v6a v6n v6c)).setCell ⟨rb, 0, none⟩ (.int .i64 (md (xn + 1))))) (BFoot rb (.slice na ln.length nc) (.slice da ld.length dc))) := Lib.hid (by
              have k1 := chg_far HRL.out.chg HC1.out (fun y hy => .inr (own_base OWN.out hy))
              have k2 := (k1.trans (Chg.of_below B2.out (fun _ => False)) (fun _ _ h => h.elim)).trans (Chg.of_below B3.out (fun _ => False)) (fun _ _ h => h.elim)
              exact chg_far k2 CHT.out (fun y hy => by
                rcases hy with hy | rfl
                · exact .inr (by omega)
                · exact .inl (.inl rfl)))
            have FFAR : Hid (∀ y, Value.ownBlock (.slice v1a (done.length + 1) v1c) = some y → ¬ BFoot rb (.slice v4a v4n v4c) (.slice v6a v6n v6c) y) := Lib.hid fun y hy hb => by
              have h1 := OB.out y hy
              have h2 := B2.out.size
              rcases hb with hb | hb | hb
              · exact h1.2 hb
              · have := A4.out y hb; omega
              · have := A6L.out y hb; omega
            have FFT : Hid (∀ y, BFoot rb (.slice v4a v4n v4c) (.slice v6a v6n v6c) y → BFoot rb (.slice na ln.length nc) (.slice da ld.length dc) y ∨ w.heap.size ≤ y) := Lib.hid fun y hb => by
              have h2 := B2.out.size
              rcases hb with hb | hb | hb
              · exact .inl (.inl hb)
              · right; have := A4.out y hb; omega
              · right; have := A6L.out y hb; omega
            have hmm : (xn + 1).tmod 65536 = md (xn + 1) := by rw [Int.tmod_eq_emod_of_nonneg (by omega)]; rfl
            have hmd := md_lt (xn + 1)
            have hww1 : IntKind.i64.wrap (xn + 1) = xn + 1 := IntWalk.i64_in _ (by omega)
            have hww2 : IntKind.i64.wrap ((xn + 1).tmod 65536) = md (xn + 1) := by rw [hmm]; exact IntWalk.i64_in _ (by omega)
            have hww3 : (xn + 1) % 65536 = md (xn + 1) := rfl
            have HMD := Lib.hid hmd
            have HFT : Hid ((l'.eraseIdx j).length ≤ f2 ∧ f2 + (done ++ [xd]).length = F) := Lib.hid (by rw [List.length_append]; have := FIT.out; simp; omega)
            have MES : Hid (F - lenOf (.slice v1a (done.length + 1) v1c) < F - lenOf (.slice oa done.length oc)) := Lib.hid (by simp only [lenOf]; omega)
            clear own6 g6 a6 CH6 se1 cf6 cf7
            go_wp2_with fail
            go_roundw
            case rel => exact ⟨done ++ [xd], md (xn + 1), l'.eraseIdx j, f2, .slice v4a v4n v4c, .slice v6a v6n v6c, T8.out, HMD.out, OFIN.out, FFAR.out, CFIN.out, FFT.out, HST.out, HFT.out⟩
            case measure => exact MES.out
          · have hpJ : dix l' due' < 0 := by omega
            have HE : Hid (drainD F due l0 = (done, due', l')) := Lib.hid (by rw [RL.dr, drainD_no hp]; simp)
            obtain ⟨oa, oc, rfl⟩ := owns_slice RL.own
            clear RL hp
            generalize dix l' due' = z2 at *
            go_wp2_with fail
            refine PL2.out.mono ?_
            rintro e w2 ⟨rfl, rfl⟩
            go_wp2_with fail
            go_ret
            rw [HE.out]
            exact ⟨_, rfl, HRL.out.own, xN, xD, HRL.out.box, HRL.out.chg, HRL.out.ft⟩
      · have hfI : 32 ≤ md (n - due) := by omega
        have HN := Lib.hid (NO.out (takeD_no (fun h => hfar h.2.2)))
        generalize dix l n = z at *
        generalize md (n - due) = zz at *
        clear NO h hq cf hfar hp
        go_enter Tryd.func19, Tryd.ntmps19
        go_wp2_with fail
        refine (SQ.out _).mono ?_
        rintro e w1 ⟨rfl, rfl⟩
        go_wp2_with fail
        refine PL.out.mono ?_
        rintro e w1 ⟨rfl, rfl⟩
        go_wp2_with fail
        refine DI.out.mono ?_
        rintro e w1 ⟨rfl, rfl⟩
        go_wp2_with fail
        go_ret
        exact HN.out
  · have hq' : wlB n = false := by simpa using hq
    have HN := Lib.hid (NO.out (takeD_no (fun h => hq h.1)))
    rw [hq'] at SQ
    clear NO h hq hq' cf
    go_enter Tryd.func19, Tryd.ntmps19
    go_wp2_with fail
    refine (SQ.out _).mono ?_
    rintro e w1 ⟨rfl, rfl⟩
    go_wp2_with fail
    go_ret
    exact HN.out
end Go.Proofs.YtnjkopjbognpiaaDoor
