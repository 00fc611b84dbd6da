/- The document's (*Sender).Take. The text written by program (gen_refstake.py). -/
import Derived.Test.YtnjkopjbognpiaaDoorRefSnd
namespace Go.Proofs.YtnjkopjbognpiaaDoor
open Go.RowKit
set_option linter.unusedVariables false

theorem ownsRow_alone {w w' : World} {base : Nat} {e : TypeId} {size : Nat} {v : Value} {n : Nat} {xs : List Value} (h : w.ownsRow base e size v n xs) (d : Drew w w') : w'.ownsRow base e size v n xs := by
  obtain ⟨m, rfl⟩ := d; exact h
theorem calls_flip {P : Program} {f : FuncId} {args : Array Value} {w : World} {x : Ending} (h : Calls P f args w fun e w' => e = x ∧ w' = w) : Calls P f args w fun e w' => e = x ∧ w = w' := h.mono fun _ _ ⟨a, b⟩ => ⟨a, b.symm⟩
/-- is a number gone? -/
def gB (z far : Int) (l : List Int) (x : Int) : Bool := decide (z < far) || l.contains x
theorem gB_nil (z far x : Int) : gB z far [] x = decide (z < far) := by unfold gB; simp
theorem gB_step (z far : Int) (more : List Int) (x : Int) (j : Nat) (hj : j < more.length) : ((more[j]'hj) = x → gB z far (more.take (j + 1)) x = true) ∧ ((more[j]'hj) ≠ x → gB z far (more.take (j + 1)) x = gB z far (more.take j) x) := by
  unfold gB
  rw [List.take_succ_eq_append_getElem hj]
  generalize more.take j = L
  generalize more[j]'hj = y
  refine ⟨fun e => by simp [e], fun h => ?_⟩
  have h3 : ¬ x = y := fun e => h e.symm
  simp [h3]
attribute [irreducible] gB
/-- both lists are stored -/
theorem TwoL.setND {T : TypeId} {w w1 : World} {base b : Nat} {vN vD vN' vD' : Value} {x : Int} {ln ln' : List Int} {ld ld' : List (List UInt8)} (h : TwoL T w base b vN vD x ln ld) (hb : Below w.heap.size w w1) (hbase : base ≤ w.heap.size)
    (ho : w1.ownsRow w.heap.size 3 1 vN' ln'.length (intV ln')) (hd : w1.ownsRow w.heap.size 9 1 vD' ld'.length (txtV ld')) (hne : ∀ y, vN'.ownBlock = some y → vD'.ownBlock ≠ some y) :
    TwoTo T w ((w1.setCell ⟨b, 1, none⟩ vN').setCell ⟨b, 2, none⟩ vD') base b vN vD x ln' ld' := by
  have hcell : w1.heap[b]? = some (.cells #[.int .i64 x, vN, vD] T (0, 0)) := (hb.block b h.lt).trans h.cells
  have hc := ((Chg.refl w1 (fun y => y = b)).set ⟨b, 1, none⟩ (.inl rfl) vN').set ⟨b, 2, none⟩ (.inl rfl) vD'
  have hbl := h.lt
  have nN : ∀ y, vN'.ownBlock = some y → w.heap.size ≤ y := fun y hy => own_base ho hy
  have nD : ∀ y, vD'.ownBlock = some y → w.heap.size ≤ y := fun y hy => own_base hd hy
  refine ⟨vN', vD', ⟨?_, owns_mono' (own_other ho hc (fun y hy e => by have := nN y hy; omega)) hbase, owns_mono' (own_other hd hc (fun y hy e => by have := nD y hy; omega)) hbase, h.lo, fun e => (by have := nN b e; omega), fun e => (by have := nD b e; omega), hne⟩, (Chg.of_below hb _).trans hc (fun y _ hy => .inl hy), fun y hy => ?_⟩
  · have h1 := set_at (k := 1) (u := vN') hcell
    have h2 := set_at (k := 2) (u := vD') h1
    simpa using h2
  · rcases hy with hy | hy | hy
    · exact .inl (.inl hy)
    · exact .inr (nN y hy)
    · exact .inr (nD y hy)
set_option maxRecDepth 100000 in
set_option maxHeartbeats 12800000 in
theorem rstake_any (base sb : Nat) (vN vD mv : Value) (next nx : Int) (l : List PK) (more : List Int) (w : World) (h : TwoL 34 w base sb vN vD next (l.map PK.n) (l.map PK.d)) (hk : KOk l) (hn : 0 ≤ next ∧ next < 65536) (hmv : SliceIs w mv 1 (more.map (Value.int .i64))) (hlen : l.length ≤ 100000) (hbase : base ≤ w.heap.size) :
    Calls Tryd.prog 14 #[.pointer (some ⟨sb, 0, none⟩), .int .i64 nx, mv] w fun e w' => e = .returned (.int .i64 ((l.length : Int) - (sTake next l nx more).length)) ∧
      TwoTo 34 w w' base sb vN vD next ((sTake next l nx more).map PK.n) ((sTake next l nx more).map PK.d) := by
  obtain ⟨⟨c0, c1, c2⟩, cf⟩ := h.cs
  obtain ⟨na, nc, rfl⟩ := owns_slice h.ownN
  obtain ⟨da, dc, rfl⟩ := owns_slice h.ownD
  obtain ⟨ms, mm, mc, rfl, hmm, hm1, hm2, _⟩ := hmv.get
  rw [List.length_map, Nat.mul_one] at hmm
  subst hmm
  unfold maxLen at hm2
  have MA : Hid (∀ (j : Nat) (hj : j < more.length) (w' : World), Below w.heap.size w w' → ∃ ma, ms = some ma ∧ w'.cell? (ma.add j) = some (.int .i64 (more[j]'hj))) := Lib.hid fun j hj w' b => by
    obtain ⟨s2, n2, c2, e2, _, _, _, g2⟩ := (hmv.below b).get
    cases e2
    obtain ⟨ad, e3, d3⟩ := g2 j _ (ints_get more j hj)
    exact ⟨ad, e3, d3⟩
  obtain ⟨m, hm⟩ : ∃ m, m = l.length := ⟨_, rfl⟩
  have hml : (l.map PK.n).length = m := by rw [hm]; simp
  have hmd' : (l.map PK.d).length = m := by rw [hm]; simp
  rw [hml] at c1
  rw [hmd'] at c2
  rw [hml, hmd'] at h
  rw [hml, hmd']
  have HH := Lib.hid h
  clear cf hmv
  cases l with
  | nil =>
    have hm0 : m = 0 := hm
    have hg0 : (m : Int) = 0 := by omega
    have HW := Lib.hid (TwoTo.same HH.out (Below.refl w.heap.size w))
    subst hm0
    clear hm hml hmd'
    go_enter Tryd.func14, Tryd.ntmps14
    go_wp2_with fail
    go_ret
    exact ⟨rfl, HW.out⟩
  | cons o r =>
    have hkk := hk
    have ho := hk o (by simp)
    have hm0 : m = r.length + 1 := hm
    have hmB : m ≤ 100000 := by rw [hm]; exact hlen
    have hmBI : (m : Int) ≤ 100000 := by omega
    have hgI : ¬ (m : Int) = 0 := by omega
    have hgM : ¬ m = 0 := by omega
    have hgP : 0 < m := by omega
    generalize hlr : o :: r = l at *
    obtain ⟨na, rfl⟩ : ∃ a, na = some a := by
      rcases h.ownN.2 with ⟨e, e0⟩ | ⟨g, cap, cur, e, _⟩
      · omega
      · simp at e; exact ⟨_, e.1⟩
    obtain ⟨da, rfl⟩ : ∃ a, da = some a := by
      rcases h.ownD.2 with ⟨e, e0⟩ | ⟨g, cap, cur, e, _⟩
      · omega
      · simp at e; exact ⟨_, e.1⟩
    have HB : Hid (∀ k, k < m → k < l.length) := Lib.hid fun k h => by omega
    have AT : Hid (∀ (k : Nat) (hk : k < m) (w' : World), Below w.heap.size w w' → w'.cell? (na.add k) = some (.int .i64 (l[k]'(HB.out k hk)).n) ∧ w'.cell? (da.add k) = some (.string (bs (l[k]'(HB.out k hk)).d))) := Lib.hid fun k hk w' b => by
      have h' := h.below b
      obtain ⟨a2, n2, c2, e2, _, _, _, g2⟩ := (SliceIs.ownedK h'.ownN).get
      cases e2
      obtain ⟨ad, e3, d3⟩ := g2 k (.int .i64 (l[k]'(HB.out k hk)).n) (by unfold intV; rw [List.getElem?_map, List.getElem?_map, List.getElem?_eq_getElem (HB.out k hk)]; rfl)
      cases e3
      obtain ⟨a4, n4, c4, e4, _, _, _, g4⟩ := (SliceIs.ownedK h'.ownD).get
      cases e4
      obtain ⟨ad, e5, d5⟩ := g4 k (.string (bs (l[k]'(HB.out k hk)).d)) (by unfold txtV; rw [List.getElem?_map, List.getElem?_map, List.getElem?_eq_getElem (HB.out k hk)]; rfl)
      cases e5
      exact ⟨d3, d5⟩
    have d0 : w.cell? na = some (.int .i64 o.n) := by
      have := (AT.out 0 hgP w (Below.refl _ _)).1
      have e1 : na.add 0 = na := by obtain ⟨b, o, s⟩ := na; unfold Addr.add; cases s <;> rfl
      have e2 : (l[0]'(by omega)) = o := by subst hlr; rfl
      rw [e1, e2] at this
      exact this
    obtain ⟨i0, hi, hz0, hz1, hz2⟩ := info_parts infoInt'
    obtain ⟨j0, hjj, hy0, hy1, hy2⟩ := info_parts infoStr
    have HMM : Hid ((l.length : Int) = m) := Lib.hid (by rw [hm])
    have SQ := Lib.hid (fun w' => calls_flip (risSeq_any nx w'))
    obtain ⟨KL, hKL⟩ : ∃ KL : Nat → List PK, KL = fun k => (l.take k).filter fun p => !goneB (farOf next o.n nx) o.n more p := ⟨_, rfl⟩
    have KL0 : Hid (KL 0 = []) := Lib.hid (by rw [hKL]; rfl)
    have HKL : Hid (∀ k, (KL k).length ≤ 100000) := Lib.hid fun k => by
      rw [hKL]
      refine Nat.le_trans (List.length_filter_le _ _) ?_
      rw [List.length_take]; omega
    have HKM : Hid ((KL m).length ≤ m) := Lib.hid (by
      rw [hKL]
      refine Nat.le_trans (List.length_filter_le _ _) ?_
      rw [List.length_take]; omega)
    have HEND : Hid (KL m = sTake next l nx more) := Lib.hid (by rw [hKL]; simp only; rw [List.take_of_length_le (by omega), ← hlr, sTake_cons])
    have ST0 : Hid (∀ (k : Nat) (hk : k < m), (0 ≤ (l[k]'(HB.out k hk)).n ∧ (l[k]'(HB.out k hk)).n < 65536) ∧ (goneB (farOf next o.n nx) o.n more (l[k]'(HB.out k hk)) = true → KL (k + 1) = KL k) ∧ (goneB (farOf next o.n nx) o.n more (l[k]'(HB.out k hk)) = false → KL (k + 1) = KL k ++ [l[k]'(HB.out k hk)])) := Lib.hid fun k hk => by
      refine ⟨hkk _ (List.getElem_mem _), fun hg => ?_, fun hg => ?_⟩
      · rw [hKL]; simp only; rw [List.take_succ_eq_append_getElem (HB.out k hk), List.filter_append, List.filter_cons_of_neg (by simp [hg])]; simp
      · rw [hKL]; simp only; rw [List.take_succ_eq_append_getElem (HB.out k hk), List.filter_append, List.filter_cons_of_pos (by simp [hg])]; rfl
    have HN := Lib.hid hn
    clear hKL h hm hml hmd' hk hkk hm0
    by_cases hq : wlB nx = true
    · have hnx := wlB_true hq
      have D1 := Lib.hid (fun w' => rdist_any o.n nx w' ho hnx)
      have D2 := Lib.hid (fun w' => rdist_any o.n next w' ho HN.out)
      rw [hq] at SQ
      by_cases hle : md (nx - o.n) ≤ md (next - o.n)
      · have hf : farOf next o.n nx = md (nx - o.n) := by unfold farOf; simp [hq, hle]
        have ST : Hid (∀ (k : Nat) (hk : k < m), (0 ≤ (l[k]'(HB.out k hk)).n ∧ (l[k]'(HB.out k hk)).n < 65536) ∧ (gB (md ((l[k]'(HB.out k hk)).n - o.n)) (md (nx - o.n)) more (l[k]'(HB.out k hk)).n = true → KL (k + 1) = KL k) ∧ (gB (md ((l[k]'(HB.out k hk)).n - o.n)) (md (nx - o.n)) more (l[k]'(HB.out k hk)).n = false → KL (k + 1) = KL k ++ [l[k]'(HB.out k hk)])) := Lib.hid (by
          have := ST0.out
          rw [hf] at this
          unfold goneB at this
          unfold gB
          exact this)
        have hfb := md_lt (nx - o.n)
        clear ST0 hf hq hnx hn hlr
        generalize md (nx - o.n) = fz at *
        generalize md (next - o.n) = gz at *
        go_enter Tryd.func14, Tryd.ntmps14
        go_wp2_with fail
        refine (SQ.out _).mono ?_
        rintro e w1 ⟨rfl, rfl⟩
        go_wp2_with fail
        go_quiet ((go_at_call 25; first | (with_reducible exact Calls.quiet_of_same (D1.out _)) | (with_reducible exact Calls.quiet_of_same (D2.out _))))
        go_wp2_with fail
        refine (calls_flip (D1.out _)).mono ?_
        rintro e w2 ⟨rfl, rfl⟩
        go_wp2_with fail
        go_loopw [10, 11, 12, 13, 14] (fun a b i _ _ wr => ∃ k : Nat, i = .int .i64 k ∧ k ≤ m ∧ wr.ownsRow w.heap.size 3 1 a (KL k).length (intV ((KL k).map PK.n)) ∧ wr.ownsRow w.heap.size 9 1 b (KL k).length (txtV ((KL k).map PK.d)) ∧ (∀ y, a.ownBlock = some y → b.ownBlock ≠ some y) ∧ Below w.heap.size w wr) (fun _ _ i _ _ _ => m - (intOf i).toNat)
        case atStart => exact ⟨0, rfl, by omega, by rw [KL0.out]; exact World.ownsRow_nil _ _ _ _, by rw [KL0.out]; exact World.ownsRow_nil _ _ _ _, (fun y h => by simp [Value.ownBlock] at h), by first | exact Below.refl _ _ | exact Drew.below (Drew.drewN _ _) _ | exact Drew.below ((Drew.drewN _ _).trans (Drew.drewN _ _)) _⟩
        case round =>
          obtain ⟨k, rfl, hkm, own1, own2, hne, bel⟩ := hrel
          have O1 := Lib.hid own1
          have O2 := Lib.hid own2
          have NE := Lib.hid hne
          have BW := Lib.hid bel
          obtain ⟨aa, ac, rfl⟩ := owns_slice own1
          obtain ⟨ba, bc, rfl⟩ := owns_slice own2
          obtain ⟨⟨c0, c1, c2⟩, _⟩ := (HH.out.below BW.out).cs
          clear own1 own2 hne bel
          by_cases hlt : k < m
          · have hltI : (k : Int) < m := by omega
            have x1 : (0 : Int) ≤ k := by omega
            have x2 : (k : Int).toNat = k := by omega
            obtain ⟨d0, d1⟩ := AT.out k hlt _ BW.out
            obtain ⟨hx, YES, NO⟩ := ST.out k hlt
            have YES := Lib.hid YES
            have NO := Lib.hid NO
            generalize hX : l[k]'(HB.out k hlt) = X at *
            obtain ⟨xn, xd⟩ := X
            simp only at d0 d1 hx
            have DI := Lib.hid (fun w' => calls_flip (rdist_any o.n xn w' ho hx))
            have KK := Lib.hid (show k + 1 ≤ m from hlt)
            go_wp2_with fail
            refine (DI.out _).mono ?_
            rintro e w2 ⟨rfl, rfl⟩
            go_wp2_with fail
            generalize hz : md (xn - o.n) = z at *
            have HGB : Hid (∀ j, (hj : j < more.length) → ((more[j]'hj) = xn → gB z fz (more.take (j + 1)) xn = true) ∧ ((more[j]'hj) ≠ xn → gB z fz (more.take (j + 1)) xn = gB z fz (more.take j) xn)) := Lib.hid fun j hj => gB_step z fz more xn j hj
            obtain ⟨wo, rfl⟩ : ∃ wo : World, wo = wr := ⟨_, rfl⟩
            go_loopw [13, 14] (fun g i wi => ∃ j : Nat, i = .int .i64 j ∧ j ≤ more.length ∧ g = .bool (gB z fz (more.take j) xn) ∧ Drew wo wi) (fun _ i _ => more.length - (intOf i).toNat)
            case atStart => exact ⟨0, rfl, by omega, by rw [List.take_zero, gB_nil], Drew.refl _⟩
            case round =>
              obtain ⟨j, rfl, hj, rfl, dw⟩ := hrel
              have DW := Lib.hid dw
              have bi := below_trans' BW.out (dw.below _)
              have BI := Lib.hid bi
              obtain ⟨⟨c0, c1, c2⟩, _⟩ := (HH.out.below BI.out).cs
              obtain ⟨d0, d1⟩ := AT.out k hlt _ BI.out
              rw [hX] at d0 d1
              clear dw bi
              by_cases hjl : j < more.length
              · have hjI : (j : Int) < more.length := by omega
                have z1 : (0 : Int) ≤ j := by omega
                have z2 : (j : Int).toNat = j := by omega
                obtain ⟨ma, rfl, m0⟩ := MA.out j hjl _ BI.out
                obtain ⟨gy, gn⟩ := HGB.out j hjl
                have JJ := Lib.hid (show j + 1 ≤ more.length from hjl)
                have GY := Lib.hid gy
                have GN := Lib.hid gn
                clear gy gn
                generalize more[j]'hjl = y at *
                by_cases hy : y = xn
                · subst hy
                  have G1 := Lib.hid (GY.out rfl)
                  clear GY GN
                  go_wp2_with fail
                  go_quiet (fail)
                  go_wp2_with fail
                  go_roundw
                  case rel => exact ⟨j + 1, by go_num, JJ.out, by rw [G1.out], DW.out.trans (by first | exact Drew.drewN _ _ | exact Drew.drew _)⟩
                  case measure => simp [intOf]; omega
                · have hb1 : (y == xn) = false := by simpa using hy
                  have G1 := Lib.hid (GN.out hy)
                  clear GY GN hy
                  go_wp2_with fail
                  go_quiet (fail)
                  go_wp2_with fail
                  go_roundw
                  case rel => exact ⟨j + 1, by go_num, JJ.out, by rw [G1.out], DW.out.trans (by first | exact Drew.drewN _ _ | exact Drew.drew _)⟩
                  case measure => simp [intOf]; omega
              · have hjI : ¬ (j : Int) < more.length := by omega
                have htk : more.take j = more := List.take_of_length_le (by omega)
                have HBW := Lib.hid (below_trans' BW.out (DW.out.below _))
                have P1 := Lib.hid (ownsRow_alone O1.out DW.out)
                have P2 := Lib.hid (ownsRow_alone O2.out DW.out)
                rw [htk]
                cases hg : gB z fz more xn with
                | true =>
                  have HY := Lib.hid (YES.out hg)
                  clear YES NO hg
                  go_wp2_with fail
                  go_roundw
                  case rel => exact ⟨k + 1, by go_num, KK.out, by rw [HY.out]; exact P1.out, by rw [HY.out]; exact P2.out, NE.out, HBW.out⟩
                  case measure => simp [intOf]; omega
                | false =>
                  have HY := Lib.hid (NO.out hg)
                  have hkl := HKL.out k
                  have HN1 : Hid ((KL k).length + 1 ≤ maxLen) := by show _ ≤ _; unfold maxLen; omega
                  have HN2 : Hid (((KL k).length + 1) * 8 ≤ 140737488355328) := by show _ ≤ _; omega
                  have HN3 : Hid (((KL k).length + 1) * 16 ≤ 140737488355328) := by show _ ≤ _; omega
                  clear YES NO hg hkl
                  obtain ⟨q, hq⟩ : ∃ q, (KL k).length = q := ⟨_, rfl⟩
                  have HQ0 := Lib.hid hq
                  rw [hq] at P1 P2 HN1 HN2 HN3 NE
                  go_wp2_with (at_builtin; refine Hid.out ?_)
                  refine Lib.hid ?_
                  refine wpList_append_own_at _ rfl (.tmp 84) (.tmp 92) 31 rfl w.heap.size 3 i0 _ 1 8 Tryd.underlying31 hi hz0 hz1 hz2 rfl (by decide) _ _ _ rfl (P1.out.alloc _) ⟨_, 0, none⟩ 1 1 [.int .i64 xn] rfl rfl (one_news (alloc_at1 rfl)) (one_cell rfl) HN1.out HN2.out (by have := HBW.out.size; simp; omega) ?_
                  intro v' w5 hown5 hgrow _ hat
                  have CH5 := chg_app hgrow
                  have Q2 := Lib.hid (own_other P2.out CH5 (fun y hy hn => NE.out y hn hy))
                  have Q1 : Hid (w5.ownsRow w.heap.size 3 1 v' (q + 1) (intV ((KL (k + 1)).map PK.n))) := Lib.hid (by rw [HY.out, List.map_append]; rw [show ([(⟨xn, xd⟩ : PK)].map PK.n) = [xn] from rfl, intV_snoc]; exact hown5)
                  have BB5 := Lib.hid (CH5.below HBW.out (fun y hy => own_base P1.out hy))
                  have NE5 : Hid (∀ y, v'.ownBlock = some y → Value.ownBlock (.slice ba q bc) ≠ some y) := Lib.hid fun y hy e => by
                    rcases at_app hat y hy with h1 | h1
                    · exact NE.out y h1 e
                    · have := (P2.out.lt y e).2; omega
                  obtain ⟨⟨c0, c1, c2⟩, _⟩ := (HH.out.below BB5.out).cs
                  obtain ⟨d0, d1⟩ := AT.out k hlt _ BB5.out
                  rw [hX] at d0 d1
                  obtain ⟨va, vc, rfl⟩ := owns_slice hown5
                  clear hown5 hgrow hat CH5
                  go_wp2_with (at_builtin; refine Hid.out ?_)
                  refine Lib.hid ?_
                  refine wpList_append_own_at _ rfl (.tmp 94) (.tmp 102) 32 rfl w.heap.size 9 j0 _ 1 16 Tryd.underlying32 hjj hy0 hy1 hy2 rfl (by decide) _ _ _ rfl (Q2.out.alloc _) ⟨_, 0, none⟩ 1 1 [.string (bs xd)] rfl rfl (one_news (alloc_at1 rfl)) (one_cell rfl) HN1.out HN3.out (by have := BB5.out.size; simp; omega) ?_
                  intro v'' w6 hown6 hgrow _ hat
                  have CH6 := chg_app hgrow
                  have U1 := Lib.hid (own_other Q1.out CH6 (fun y hy hn => NE5.out y hy hn))
                  have U2 : Hid (w6.ownsRow w.heap.size 9 1 v'' (q + 1) (txtV ((KL (k + 1)).map PK.d))) := Lib.hid (by rw [HY.out, List.map_append]; rw [show ([(⟨xn, xd⟩ : PK)].map PK.d) = [xd] from rfl, txtV_snoc]; exact hown6)
                  have BB6 := Lib.hid (CH6.below BB5.out (fun y hy => own_base Q2.out hy))
                  have NE6 : Hid (∀ y, Value.ownBlock (.slice va (q + 1) vc) = some y → v''.ownBlock ≠ some y) := Lib.hid fun y hy e => by
                    rcases at_app hat y e with h1 | h1
                    · exact NE5.out y hy h1
                    · have := (Q1.out.lt y hy).2; omega
                  have HQ : Hid ((KL (k + 1)).length = q + 1) := Lib.hid (by rw [HY.out, List.length_append, HQ0.out]; rfl)
                  obtain ⟨vb, vd, rfl⟩ := owns_slice hown6
                  clear hown6 hgrow hat CH6
                  go_wp2_with fail
                  go_roundw
                  case rel => exact ⟨k + 1, by go_num, KK.out, by rw [HQ.out]; exact U1.out, by rw [HQ.out]; exact U2.out, NE6.out, BB6.out⟩
                  case measure => simp [intOf]; omega
          · have hltI : ¬ (k : Int) < m := by omega
            obtain rfl : k = m := by omega
            have RES := Lib.hid (HH.out.setND BW.out hbase (by rw [List.length_map]; exact O1.out) (by rw [List.length_map]; exact O2.out) NE.out)
            have f1 := (HH.out.below BW.out).cs.2 1
            have f2 := (HH.out.below BW.out).cs.2 2
            have hq : (KL k).length ≤ k := HKM.out
            have hw1 : IntKind.i64.wrap ((k : Int) - (KL k).length) = (k : Int) - (KL k).length := IntWalk.i64_in _ (by omega)
            go_wp2_with fail
            go_ret
            rw [← HEND.out]
            exact ⟨by rw [HMM.out]; rfl, RES.out⟩
      · have hf : farOf next o.n nx = 0 := by unfold farOf; simp [hq, hle]
        have ST : Hid (∀ (k : Nat) (hk : k < m), (0 ≤ (l[k]'(HB.out k hk)).n ∧ (l[k]'(HB.out k hk)).n < 65536) ∧ (gB (md ((l[k]'(HB.out k hk)).n - o.n)) (0) more (l[k]'(HB.out k hk)).n = true → KL (k + 1) = KL k) ∧ (gB (md ((l[k]'(HB.out k hk)).n - o.n)) (0) more (l[k]'(HB.out k hk)).n = false → KL (k + 1) = KL k ++ [l[k]'(HB.out k hk)])) := Lib.hid (by
          have := ST0.out
          rw [hf] at this
          unfold goneB at this
          unfold gB
          exact this)
        have hle' : md (next - o.n) < md (nx - o.n) := by omega
        clear ST0 hf hq hnx hn hlr hle
        generalize md (nx - o.n) = fz at *
        generalize md (next - o.n) = gz at *
        go_enter Tryd.func14, Tryd.ntmps14
        go_wp2_with fail
        refine (SQ.out _).mono ?_
        rintro e w1 ⟨rfl, rfl⟩
        go_wp2_with fail
        go_quiet ((go_at_call 25; first | (with_reducible exact Calls.quiet_of_same (D1.out _)) | (with_reducible exact Calls.quiet_of_same (D2.out _))))
        go_wp2_with fail
        go_loopw [10, 11, 12, 13, 14] (fun a b i _ _ wr => ∃ k : Nat, i = .int .i64 k ∧ k ≤ m ∧ wr.ownsRow w.heap.size 3 1 a (KL k).length (intV ((KL k).map PK.n)) ∧ wr.ownsRow w.heap.size 9 1 b (KL k).length (txtV ((KL k).map PK.d)) ∧ (∀ y, a.ownBlock = some y → b.ownBlock ≠ some y) ∧ Below w.heap.size w wr) (fun _ _ i _ _ _ => m - (intOf i).toNat)
        case atStart => exact ⟨0, rfl, by omega, by rw [KL0.out]; exact World.ownsRow_nil _ _ _ _, by rw [KL0.out]; exact World.ownsRow_nil _ _ _ _, (fun y h => by simp [Value.ownBlock] at h), by first | exact Below.refl _ _ | exact Drew.below (Drew.drewN _ _) _ | exact Drew.below ((Drew.drewN _ _).trans (Drew.drewN _ _)) _⟩
        case round =>
          obtain ⟨k, rfl, hkm, own1, own2, hne, bel⟩ := hrel
          have O1 := Lib.hid own1
          have O2 := Lib.hid own2
          have NE := Lib.hid hne
          have BW := Lib.hid bel
          obtain ⟨aa, ac, rfl⟩ := owns_slice own1
          obtain ⟨ba, bc, rfl⟩ := owns_slice own2
          obtain ⟨⟨c0, c1, c2⟩, _⟩ := (HH.out.below BW.out).cs
          clear own1 own2 hne bel
          by_cases hlt : k < m
          · have hltI : (k : Int) < m := by omega
            have x1 : (0 : Int) ≤ k := by omega
            have x2 : (k : Int).toNat = k := by omega
            obtain ⟨d0, d1⟩ := AT.out k hlt _ BW.out
            obtain ⟨hx, YES, NO⟩ := ST.out k hlt
            have YES := Lib.hid YES
            have NO := Lib.hid NO
            generalize hX : l[k]'(HB.out k hlt) = X at *
            obtain ⟨xn, xd⟩ := X
            simp only at d0 d1 hx
            have DI := Lib.hid (fun w' => calls_flip (rdist_any o.n xn w' ho hx))
            have KK := Lib.hid (show k + 1 ≤ m from hlt)
            go_wp2_with fail
            refine (DI.out _).mono ?_
            rintro e w2 ⟨rfl, rfl⟩
            go_wp2_with fail
            generalize hz : md (xn - o.n) = z at *
            have HGB : Hid (∀ j, (hj : j < more.length) → ((more[j]'hj) = xn → gB z 0 (more.take (j + 1)) xn = true) ∧ ((more[j]'hj) ≠ xn → gB z 0 (more.take (j + 1)) xn = gB z 0 (more.take j) xn)) := Lib.hid fun j hj => gB_step z 0 more xn j hj
            obtain ⟨wo, rfl⟩ : ∃ wo : World, wo = wr := ⟨_, rfl⟩
            go_loopw [13, 14] (fun g i wi => ∃ j : Nat, i = .int .i64 j ∧ j ≤ more.length ∧ g = .bool (gB z 0 (more.take j) xn) ∧ Drew wo wi) (fun _ i _ => more.length - (intOf i).toNat)
            case atStart => exact ⟨0, rfl, by omega, by rw [List.take_zero, gB_nil], Drew.refl _⟩
            case round =>
              obtain ⟨j, rfl, hj, rfl, dw⟩ := hrel
              have DW := Lib.hid dw
              have bi := below_trans' BW.out (dw.below _)
              have BI := Lib.hid bi
              obtain ⟨⟨c0, c1, c2⟩, _⟩ := (HH.out.below BI.out).cs
              obtain ⟨d0, d1⟩ := AT.out k hlt _ BI.out
              rw [hX] at d0 d1
              clear dw bi
              by_cases hjl : j < more.length
              · have hjI : (j : Int) < more.length := by omega
                have z1 : (0 : Int) ≤ j := by omega
                have z2 : (j : Int).toNat = j := by omega
                obtain ⟨ma, rfl, m0⟩ := MA.out j hjl _ BI.out
                obtain ⟨gy, gn⟩ := HGB.out j hjl
                have JJ := Lib.hid (show j + 1 ≤ more.length from hjl)
                have GY := Lib.hid gy
                have GN := Lib.hid gn
                clear gy gn
                generalize more[j]'hjl = y at *
                by_cases hy : y = xn
                · subst hy
                  have G1 := Lib.hid (GY.out rfl)
                  clear GY GN
                  go_wp2_with fail
                  go_quiet (fail)
                  go_wp2_with fail
                  go_roundw
                  case rel => exact ⟨j + 1, by go_num, JJ.out, by rw [G1.out], DW.out.trans (by first | exact Drew.drewN _ _ | exact Drew.drew _)⟩
                  case measure => simp [intOf]; omega
                · have hb1 : (y == xn) = false := by simpa using hy
                  have G1 := Lib.hid (GN.out hy)
                  clear GY GN hy
                  go_wp2_with fail
                  go_quiet (fail)
                  go_wp2_with fail
                  go_roundw
                  case rel => exact ⟨j + 1, by go_num, JJ.out, by rw [G1.out], DW.out.trans (by first | exact Drew.drewN _ _ | exact Drew.drew _)⟩
                  case measure => simp [intOf]; omega
              · have hjI : ¬ (j : Int) < more.length := by omega
                have htk : more.take j = more := List.take_of_length_le (by omega)
                have HBW := Lib.hid (below_trans' BW.out (DW.out.below _))
                have P1 := Lib.hid (ownsRow_alone O1.out DW.out)
                have P2 := Lib.hid (ownsRow_alone O2.out DW.out)
                rw [htk]
                cases hg : gB z 0 more xn with
                | true =>
                  have HY := Lib.hid (YES.out hg)
                  clear YES NO hg
                  go_wp2_with fail
                  go_roundw
                  case rel => exact ⟨k + 1, by go_num, KK.out, by rw [HY.out]; exact P1.out, by rw [HY.out]; exact P2.out, NE.out, HBW.out⟩
                  case measure => simp [intOf]; omega
                | false =>
                  have HY := Lib.hid (NO.out hg)
                  have hkl := HKL.out k
                  have HN1 : Hid ((KL k).length + 1 ≤ maxLen) := by show _ ≤ _; unfold maxLen; omega
                  have HN2 : Hid (((KL k).length + 1) * 8 ≤ 140737488355328) := by show _ ≤ _; omega
                  have HN3 : Hid (((KL k).length + 1) * 16 ≤ 140737488355328) := by show _ ≤ _; omega
                  clear YES NO hg hkl
                  obtain ⟨q, hq⟩ : ∃ q, (KL k).length = q := ⟨_, rfl⟩
                  have HQ0 := Lib.hid hq
                  rw [hq] at P1 P2 HN1 HN2 HN3 NE
                  go_wp2_with (at_builtin; refine Hid.out ?_)
                  refine Lib.hid ?_
                  refine wpList_append_own_at _ rfl (.tmp 84) (.tmp 92) 31 rfl w.heap.size 3 i0 _ 1 8 Tryd.underlying31 hi hz0 hz1 hz2 rfl (by decide) _ _ _ rfl (P1.out.alloc _) ⟨_, 0, none⟩ 1 1 [.int .i64 xn] rfl rfl (one_news (alloc_at1 rfl)) (one_cell rfl) HN1.out HN2.out (by have := HBW.out.size; simp; omega) ?_
                  intro v' w5 hown5 hgrow _ hat
                  have CH5 := chg_app hgrow
                  have Q2 := Lib.hid (own_other P2.out CH5 (fun y hy hn => NE.out y hn hy))
                  have Q1 : Hid (w5.ownsRow w.heap.size 3 1 v' (q + 1) (intV ((KL (k + 1)).map PK.n))) := Lib.hid (by rw [HY.out, List.map_append]; rw [show ([(⟨xn, xd⟩ : PK)].map PK.n) = [xn] from rfl, intV_snoc]; exact hown5)
                  have BB5 := Lib.hid (CH5.below HBW.out (fun y hy => own_base P1.out hy))
                  have NE5 : Hid (∀ y, v'.ownBlock = some y → Value.ownBlock (.slice ba q bc) ≠ some y) := Lib.hid fun y hy e => by
                    rcases at_app hat y hy with h1 | h1
                    · exact NE.out y h1 e
                    · have := (P2.out.lt y e).2; omega
                  obtain ⟨⟨c0, c1, c2⟩, _⟩ := (HH.out.below BB5.out).cs
                  obtain ⟨d0, d1⟩ := AT.out k hlt _ BB5.out
                  rw [hX] at d0 d1
                  obtain ⟨va, vc, rfl⟩ := owns_slice hown5
                  clear hown5 hgrow hat CH5
                  go_wp2_with (at_builtin; refine Hid.out ?_)
                  refine Lib.hid ?_
                  refine wpList_append_own_at _ rfl (.tmp 94) (.tmp 102) 32 rfl w.heap.size 9 j0 _ 1 16 Tryd.underlying32 hjj hy0 hy1 hy2 rfl (by decide) _ _ _ rfl (Q2.out.alloc _) ⟨_, 0, none⟩ 1 1 [.string (bs xd)] rfl rfl (one_news (alloc_at1 rfl)) (one_cell rfl) HN1.out HN3.out (by have := BB5.out.size; simp; omega) ?_
                  intro v'' w6 hown6 hgrow _ hat
                  have CH6 := chg_app hgrow
                  have U1 := Lib.hid (own_other Q1.out CH6 (fun y hy hn => NE5.out y hy hn))
                  have U2 : Hid (w6.ownsRow w.heap.size 9 1 v'' (q + 1) (txtV ((KL (k + 1)).map PK.d))) := Lib.hid (by rw [HY.out, List.map_append]; rw [show ([(⟨xn, xd⟩ : PK)].map PK.d) = [xd] from rfl, txtV_snoc]; exact hown6)
                  have BB6 := Lib.hid (CH6.below BB5.out (fun y hy => own_base Q2.out hy))
                  have NE6 : Hid (∀ y, Value.ownBlock (.slice va (q + 1) vc) = some y → v''.ownBlock ≠ some y) := Lib.hid fun y hy e => by
                    rcases at_app hat y e with h1 | h1
                    · exact NE5.out y hy h1
                    · have := (Q1.out.lt y hy).2; omega
                  have HQ : Hid ((KL (k + 1)).length = q + 1) := Lib.hid (by rw [HY.out, List.length_append, HQ0.out]; rfl)
                  obtain ⟨vb, vd, rfl⟩ := owns_slice hown6
                  clear hown6 hgrow hat CH6
                  go_wp2_with fail
                  go_roundw
                  case rel => exact ⟨k + 1, by go_num, KK.out, by rw [HQ.out]; exact U1.out, by rw [HQ.out]; exact U2.out, NE6.out, BB6.out⟩
                  case measure => simp [intOf]; omega
          · have hltI : ¬ (k : Int) < m := by omega
            obtain rfl : k = m := by omega
            have RES := Lib.hid (HH.out.setND BW.out hbase (by rw [List.length_map]; exact O1.out) (by rw [List.length_map]; exact O2.out) NE.out)
            have f1 := (HH.out.below BW.out).cs.2 1
            have f2 := (HH.out.below BW.out).cs.2 2
            have hq : (KL k).length ≤ k := HKM.out
            have hw1 : IntKind.i64.wrap ((k : Int) - (KL k).length) = (k : Int) - (KL k).length := IntWalk.i64_in _ (by omega)
            go_wp2_with fail
            go_ret
            rw [← HEND.out]
            exact ⟨by rw [HMM.out]; rfl, RES.out⟩
    · have hq' : wlB nx = false := by simpa using hq
      rw [hq'] at SQ
      have hf : farOf next o.n nx = 0 := by unfold farOf; simp [hq']
      have ST : Hid (∀ (k : Nat) (hk : k < m), (0 ≤ (l[k]'(HB.out k hk)).n ∧ (l[k]'(HB.out k hk)).n < 65536) ∧ (gB (md ((l[k]'(HB.out k hk)).n - o.n)) (0) more (l[k]'(HB.out k hk)).n = true → KL (k + 1) = KL k) ∧ (gB (md ((l[k]'(HB.out k hk)).n - o.n)) (0) more (l[k]'(HB.out k hk)).n = false → KL (k + 1) = KL k ++ [l[k]'(HB.out k hk)])) := Lib.hid (by
        have := ST0.out
        rw [hf] at this
        unfold goneB at this
        unfold gB
        exact this)
      clear ST0 hf hq hq' hn hlr
      go_enter Tryd.func14, Tryd.ntmps14
      go_wp2_with fail
      refine (SQ.out _).mono ?_
      rintro e w1 ⟨rfl, rfl⟩
      go_wp2_with fail
      go_loopw [10, 11, 12, 13, 14] (fun a b i _ _ wr => ∃ k : Nat, i = .int .i64 k ∧ k ≤ m ∧ wr.ownsRow w.heap.size 3 1 a (KL k).length (intV ((KL k).map PK.n)) ∧ wr.ownsRow w.heap.size 9 1 b (KL k).length (txtV ((KL k).map PK.d)) ∧ (∀ y, a.ownBlock = some y → b.ownBlock ≠ some y) ∧ Below w.heap.size w wr) (fun _ _ i _ _ _ => m - (intOf i).toNat)
      case atStart => exact ⟨0, rfl, by omega, by rw [KL0.out]; exact World.ownsRow_nil _ _ _ _, by rw [KL0.out]; exact World.ownsRow_nil _ _ _ _, (fun y h => by simp [Value.ownBlock] at h), by first | exact Below.refl _ _ | exact Drew.below (Drew.drewN _ _) _ | exact Drew.below ((Drew.drewN _ _).trans (Drew.drewN _ _)) _⟩
      case round =>
        obtain ⟨k, rfl, hkm, own1, own2, hne, bel⟩ := hrel
        have O1 := Lib.hid own1
        have O2 := Lib.hid own2
        have NE := Lib.hid hne
        have BW := Lib.hid bel
        obtain ⟨aa, ac, rfl⟩ := owns_slice own1
        obtain ⟨ba, bc, rfl⟩ := owns_slice own2
        obtain ⟨⟨c0, c1, c2⟩, _⟩ := (HH.out.below BW.out).cs
        clear own1 own2 hne bel
        by_cases hlt : k < m
        · have hltI : (k : Int) < m := by omega
          have x1 : (0 : Int) ≤ k := by omega
          have x2 : (k : Int).toNat = k := by omega
          obtain ⟨d0, d1⟩ := AT.out k hlt _ BW.out
          obtain ⟨hx, YES, NO⟩ := ST.out k hlt
          have YES := Lib.hid YES
          have NO := Lib.hid NO
          generalize hX : l[k]'(HB.out k hlt) = X at *
          obtain ⟨xn, xd⟩ := X
          simp only at d0 d1 hx
          have DI := Lib.hid (fun w' => calls_flip (rdist_any o.n xn w' ho hx))
          have KK := Lib.hid (show k + 1 ≤ m from hlt)
          go_wp2_with fail
          refine (DI.out _).mono ?_
          rintro e w2 ⟨rfl, rfl⟩
          go_wp2_with fail
          generalize hz : md (xn - o.n) = z at *
          have HGB : Hid (∀ j, (hj : j < more.length) → ((more[j]'hj) = xn → gB z 0 (more.take (j + 1)) xn = true) ∧ ((more[j]'hj) ≠ xn → gB z 0 (more.take (j + 1)) xn = gB z 0 (more.take j) xn)) := Lib.hid fun j hj => gB_step z 0 more xn j hj
          obtain ⟨wo, rfl⟩ : ∃ wo : World, wo = wr := ⟨_, rfl⟩
          go_loopw [13, 14] (fun g i wi => ∃ j : Nat, i = .int .i64 j ∧ j ≤ more.length ∧ g = .bool (gB z 0 (more.take j) xn) ∧ Drew wo wi) (fun _ i _ => more.length - (intOf i).toNat)
          case atStart => exact ⟨0, rfl, by omega, by rw [List.take_zero, gB_nil], Drew.refl _⟩
          case round =>
            obtain ⟨j, rfl, hj, rfl, dw⟩ := hrel
            have DW := Lib.hid dw
            have bi := below_trans' BW.out (dw.below _)
            have BI := Lib.hid bi
            obtain ⟨⟨c0, c1, c2⟩, _⟩ := (HH.out.below BI.out).cs
            obtain ⟨d0, d1⟩ := AT.out k hlt _ BI.out
            rw [hX] at d0 d1
            clear dw bi
            by_cases hjl : j < more.length
            · have hjI : (j : Int) < more.length := by omega
              have z1 : (0 : Int) ≤ j := by omega
              have z2 : (j : Int).toNat = j := by omega
              obtain ⟨ma, rfl, m0⟩ := MA.out j hjl _ BI.out
              obtain ⟨gy, gn⟩ := HGB.out j hjl
              have JJ := Lib.hid (show j + 1 ≤ more.length from hjl)
              have GY := Lib.hid gy
              have GN := Lib.hid gn
              clear gy gn
              generalize more[j]'hjl = y at *
              by_cases hy : y = xn
              · subst hy
                have G1 := Lib.hid (GY.out rfl)
                clear GY GN
                go_wp2_with fail
                go_quiet (fail)
                go_wp2_with fail
                go_roundw
                case rel => exact ⟨j + 1, by go_num, JJ.out, by rw [G1.out], DW.out.trans (by first | exact Drew.drewN _ _ | exact Drew.drew _)⟩
                case measure => simp [intOf]; omega
              · have hb1 : (y == xn) = false := by simpa using hy
                have G1 := Lib.hid (GN.out hy)
                clear GY GN hy
                go_wp2_with fail
                go_quiet (fail)
                go_wp2_with fail
                go_roundw
                case rel => exact ⟨j + 1, by go_num, JJ.out, by rw [G1.out], DW.out.trans (by first | exact Drew.drewN _ _ | exact Drew.drew _)⟩
                case measure => simp [intOf]; omega
            · have hjI : ¬ (j : Int) < more.length := by omega
              have htk : more.take j = more := List.take_of_length_le (by omega)
              have HBW := Lib.hid (below_trans' BW.out (DW.out.below _))
              have P1 := Lib.hid (ownsRow_alone O1.out DW.out)
              have P2 := Lib.hid (ownsRow_alone O2.out DW.out)
              rw [htk]
              cases hg : gB z 0 more xn with
              | true =>
                have HY := Lib.hid (YES.out hg)
                clear YES NO hg
                go_wp2_with fail
                go_roundw
                case rel => exact ⟨k + 1, by go_num, KK.out, by rw [HY.out]; exact P1.out, by rw [HY.out]; exact P2.out, NE.out, HBW.out⟩
                case measure => simp [intOf]; omega
              | false =>
                have HY := Lib.hid (NO.out hg)
                have hkl := HKL.out k
                have HN1 : Hid ((KL k).length + 1 ≤ maxLen) := by show _ ≤ _; unfold maxLen; omega
                have HN2 : Hid (((KL k).length + 1) * 8 ≤ 140737488355328) := by show _ ≤ _; omega
                have HN3 : Hid (((KL k).length + 1) * 16 ≤ 140737488355328) := by show _ ≤ _; omega
                clear YES NO hg hkl
                obtain ⟨q, hq⟩ : ∃ q, (KL k).length = q := ⟨_, rfl⟩
                have HQ0 := Lib.hid hq
                rw [hq] at P1 P2 HN1 HN2 HN3 NE
                go_wp2_with (at_builtin; refine Hid.out ?_)
                refine Lib.hid ?_
                refine wpList_append_own_at _ rfl (.tmp 84) (.tmp 92) 31 rfl w.heap.size 3 i0 _ 1 8 Tryd.underlying31 hi hz0 hz1 hz2 rfl (by decide) _ _ _ rfl (P1.out.alloc _) ⟨_, 0, none⟩ 1 1 [.int .i64 xn] rfl rfl (one_news (alloc_at1 rfl)) (one_cell rfl) HN1.out HN2.out (by have := HBW.out.size; simp; omega) ?_
                intro v' w5 hown5 hgrow _ hat
                have CH5 := chg_app hgrow
                have Q2 := Lib.hid (own_other P2.out CH5 (fun y hy hn => NE.out y hn hy))
                have Q1 : Hid (w5.ownsRow w.heap.size 3 1 v' (q + 1) (intV ((KL (k + 1)).map PK.n))) := Lib.hid (by rw [HY.out, List.map_append]; rw [show ([(⟨xn, xd⟩ : PK)].map PK.n) = [xn] from rfl, intV_snoc]; exact hown5)
                have BB5 := Lib.hid (CH5.below HBW.out (fun y hy => own_base P1.out hy))
                have NE5 : Hid (∀ y, v'.ownBlock = some y → Value.ownBlock (.slice ba q bc) ≠ some y) := Lib.hid fun y hy e => by
                  rcases at_app hat y hy with h1 | h1
                  · exact NE.out y h1 e
                  · have := (P2.out.lt y e).2; omega
                obtain ⟨⟨c0, c1, c2⟩, _⟩ := (HH.out.below BB5.out).cs
                obtain ⟨d0, d1⟩ := AT.out k hlt _ BB5.out
                rw [hX] at d0 d1
                obtain ⟨va, vc, rfl⟩ := owns_slice hown5
                clear hown5 hgrow hat CH5
                go_wp2_with (at_builtin; refine Hid.out ?_)
                refine Lib.hid ?_
                refine wpList_append_own_at _ rfl (.tmp 94) (.tmp 102) 32 rfl w.heap.size 9 j0 _ 1 16 Tryd.underlying32 hjj hy0 hy1 hy2 rfl (by decide) _ _ _ rfl (Q2.out.alloc _) ⟨_, 0, none⟩ 1 1 [.string (bs xd)] rfl rfl (one_news (alloc_at1 rfl)) (one_cell rfl) HN1.out HN3.out (by have := BB5.out.size; simp; omega) ?_
                intro v'' w6 hown6 hgrow _ hat
                have CH6 := chg_app hgrow
                have U1 := Lib.hid (own_other Q1.out CH6 (fun y hy hn => NE5.out y hy hn))
                have U2 : Hid (w6.ownsRow w.heap.size 9 1 v'' (q + 1) (txtV ((KL (k + 1)).map PK.d))) := Lib.hid (by rw [HY.out, List.map_append]; rw [show ([(⟨xn, xd⟩ : PK)].map PK.d) = [xd] from rfl, txtV_snoc]; exact hown6)
                have BB6 := Lib.hid (CH6.below BB5.out (fun y hy => own_base Q2.out hy))
                have NE6 : Hid (∀ y, Value.ownBlock (.slice va (q + 1) vc) = some y → v''.ownBlock ≠ some y) := Lib.hid fun y hy e => by
                  rcases at_app hat y e with h1 | h1
                  · exact NE5.out y hy h1
                  · have := (Q1.out.lt y hy).2; omega
                have HQ : Hid ((KL (k + 1)).length = q + 1) := Lib.hid (by rw [HY.out, List.length_append, HQ0.out]; rfl)
                obtain ⟨vb, vd, rfl⟩ := owns_slice hown6
                clear hown6 hgrow hat CH6
                go_wp2_with fail
                go_roundw
                case rel => exact ⟨k + 1, by go_num, KK.out, by rw [HQ.out]; exact U1.out, by rw [HQ.out]; exact U2.out, NE6.out, BB6.out⟩
                case measure => simp [intOf]; omega
        · have hltI : ¬ (k : Int) < m := by omega
          obtain rfl : k = m := by omega
          have RES := Lib.hid (HH.out.setND BW.out hbase (by rw [List.length_map]; exact O1.out) (by rw [List.length_map]; exact O2.out) NE.out)
          have f1 := (HH.out.below BW.out).cs.2 1
          have f2 := (HH.out.below BW.out).cs.2 2
          have hq : (KL k).length ≤ k := HKM.out
          have hw1 : IntKind.i64.wrap ((k : Int) - (KL k).length) = (k : Int) - (KL k).length := IntWalk.i64_in _ (by omega)
          go_wp2_with fail
          go_ret
          rw [← HEND.out]
          exact ⟨by rw [HMM.out]; rfl, RES.out⟩
end Go.Proofs.YtnjkopjbognpiaaDoor
