/- FlowPlays: any good ones, and bad ones. -/
import Derived.Laws.AppendOwnNone
import Derived.Test.YtdbcplecjiknhaaFlowBounds
import Derived.Test.YtdbcplecjiknhaaSameInts
import Derived.Deep.RegionWith
namespace Go.Proofs.Ytdbcplecjiknhaa
open Go.RowKit

/-- the document's flow, a struct -/
def flowV (W L T G : Int) : Value := .agg #[.int .i64 W, .int .i64 L, .int .i64 T, .int .i64 G]
set_option maxRecDepth 100000 in
theorem newFlow_is (w : World) : Calls Try.prog 12 #[] w fun e w' => e = .returned (flowV 1 32 2 0) ∧ Below w.heap.size w w' := by
  go_enter Try.func12, Try.ntmps12
  go_wp2_with fail
  go_returns
  exact ⟨rfl, (Below.refl _ w).alloc (Nat.le_refl _) _⟩
set_option maxRecDepth 100000 in
set_option maxHeartbeats 1600000 in
theorem next_good (W L T G : Int) (w : World) (ok : FlowOk W L T G) : Calls Try.prog 13 #[flowV W L T G, .bool true] w fun e w' => e = .returned (flowV (goodW W L G) L 2 (goodG W L G)) ∧ Below w.heap.size w w' := by
  obtain ⟨o1, o2, o3, o4, o5, o6, o7, o8⟩ := ok
  unfold flowV
  have w1' : IntKind.i64.wrap (G + 1) = G + 1 := IntWalk.i64_in _ (by omega)
  have w2' : IntKind.i64.wrap (W + 1) = W + 1 := IntWalk.i64_in _ (by omega)
  have v1 : W < L → goodW W L G = W + 1 ∧ goodG W L G = 0 := fun h => by unfold goodW goodG; constructor <;> (repeat' split) <;> omega
  have v2 : L ≤ W → G + 1 < W → goodW W L G = W ∧ goodG W L G = G + 1 := fun h h' => by unfold goodW goodG; constructor <;> (repeat' split) <;> omega
  have v3 : L ≤ W → W ≤ G + 1 → W < 32 → goodW W L G = W + 1 ∧ goodG W L G = 0 := fun h h' h'' => by unfold goodW goodG; constructor <;> (repeat' split) <;> omega
  have v4 : L ≤ W → W ≤ G + 1 → 32 ≤ W → goodW W L G = 32 ∧ goodG W L G = 0 := fun h h' h'' => by unfold goodW goodG; constructor <;> (repeat' split) <;> omega
  have V1 := Lib.hid v1
  have V2 := Lib.hid v2
  have V3 := Lib.hid v3
  have V4 := Lib.hid v4
  clear v1 v2 v3 v4
  have two : ∀ o o', Below w.heap.size w ((w.alloc o).alloc o') := fun o o' => ((Below.refl _ w).alloc (Nat.le_refl _) o).alloc (by simp) o'
  have TWO := Lib.hid two
  clear two
  go_enter Try.func13, Try.ntmps13
  go_wp2_with fail
  all_goals
    go_returns
    refine ⟨?_, TWO.out _ _⟩
    first
      | (rw [(V1.out (by omega)).1, (V1.out (by omega)).2])
      | (rw [(V2.out (by omega) (by omega)).1, (V2.out (by omega) (by omega)).2])
      | (rw [(V3.out (by omega) (by omega) (by omega)).1, (V3.out (by omega) (by omega) (by omega)).2])
      | (rw [(V4.out (by omega) (by omega) (by omega)).1, (V4.out (by omega) (by omega) (by omega)).2, show W = 32 by omega])
set_option maxRecDepth 100000 in
set_option maxHeartbeats 1600000 in
theorem next_bad (W L T G : Int) (w : World) (ok : FlowOk W L T G) : Calls Try.prog 13 #[flowV W L T G, .bool false] w fun e w' => e = .returned (flowV 1 (badL W) (badT T) 0) ∧ Below w.heap.size w w' := by
  obtain ⟨o1, o2, o3, o4, o5, o6, o7, o8⟩ := ok
  unfold flowV
  have w1' : IntKind.i64.wrap (2 * T) = 2 * T := IntWalk.i64_in _ (by omega)
  have w2' : IntKind.i64.wrap (W.tdiv 2) = W / 2 := by rw [Int.tdiv_eq_ediv_of_nonneg (by omega)]; exact IntWalk.i64_in _ (by omega)
  have y1 := Lib.hid (show 1 ≤ W / 2 → badL W = W / 2 from fun h => by unfold badL; split <;> omega)
  have y2 := Lib.hid (show W / 2 < 1 → badL W = 1 from fun h => by unfold badL; split <;> omega)
  have z1 := Lib.hid (show 2 * T ≤ 64 → badT T = 2 * T from fun h => by unfold badT; split <;> omega)
  have z2 := Lib.hid (show 64 < 2 * T → badT T = 64 from fun h => by unfold badT; split <;> omega)
  have two : ∀ o o', Below w.heap.size w ((w.alloc o).alloc o') := fun o o' => ((Below.refl _ w).alloc (Nat.le_refl _) o).alloc (by simp) o'
  have TWO := Lib.hid two
  clear two
  go_enter Try.func13, Try.ntmps13
  go_wp2_with fail
  all_goals
    go_returns
    refine ⟨?_, TWO.out _ _⟩
    first
      | (rw [y1.out (by omega), z1.out (by omega)])
      | (rw [y1.out (by omega), z2.out (by omega)])
      | (rw [y2.out (by omega), z1.out (by omega)])
      | (rw [y2.out (by omega), z2.out (by omega)])

theorem infoBool : (Try.prog.info? 4).map (fun i => (i.zero, i.size, i.bytes)) = some (some (.bool false), 1, 1) := by kernel_rfl
theorem infoInt : (Try.prog.info? 3).map (fun i => (i.zero, i.size, i.bytes)) = some (some (.int .i64 0), 1, 8) := by kernel_rfl
/-- one event -/
def step (g : Bool) (s : Int × Int × Int × Int) : Int × Int × Int × Int := if g then (goodW s.1 s.2.1 s.2.2.2, s.2.1, 2, goodG s.1 s.2.1 s.2.2.2) else (1, badL s.1, badT s.2.2.1, 0)
/-- the state behind k events, the windows of k events -/
def st (l : List Bool) (k : Nat) : Int × Int × Int × Int := (l.take k).foldl (fun s g => step g s) (1, 32, 2, 0)
def wins (l : List Bool) (k : Nat) : List Int := (List.range k).map fun i => (st l (i + 1)).1
theorem st_zero (l : List Bool) : st l 0 = (1, 32, 2, 0) := rfl
theorem st_succ (l : List Bool) (k : Nat) (h : k < l.length) : st l (k + 1) = step l[k] (st l k) := by
  unfold st; rw [List.take_succ_eq_append_getElem h, List.foldl_append]; rfl
theorem wins_zero (l : List Bool) : wins l 0 = [] := rfl
theorem wins_succ (l : List Bool) (k : Nat) : wins l (k + 1) = wins l k ++ [(st l (k + 1)).1] := by unfold wins; rw [List.range_succ]; simp
theorem st_ok (l : List Bool) : ∀ k, k ≤ l.length → FlowOk (st l k).1 (st l k).2.1 (st l k).2.2.1 (st l k).2.2.2
  | 0, _ => by rw [st_zero]; unfold FlowOk; simp
  | k + 1, h => by
    have ih := st_ok l k (by omega)
    rw [st_succ l k (by omega)]
    cases l[k]
    · exact bad_ok ih
    · exact good_ok ih

attribute [irreducible] st wins
theorem FlowAt.grown {w w' : World} {b : Nat} {W L T G : Int} {r : Option Nat} (h : FlowAt w b W L T G) (hg : w.grownBy w' r) (hr : some b ≠ r) : FlowAt w' b W L T G := (hg.block b h.lt hr).trans h
theorem FlowAt.alloc {w : World} {b : Nat} {W L T G : Int} (h : FlowAt w b W L T G) (o : Obj) : FlowAt (w.alloc o) b W L T G := (Below.heap_alloc w o b h.lt).trans h
theorem owns_base' {w : World} {base : Nat} {e : TypeId} {size : Nat} {v : Value} {n : Nat} {xs : List Value} (h : w.ownsRow base e size v n xs) {j : Nat} (hj : v.ownBlock = some j) : base ≤ j := by
  obtain ⟨_, h2⟩ := h
  rcases h2 with ⟨rfl, h2⟩ | ⟨g, cap, cur, hv, hg, _⟩
  · simp [Value.ownBlock] at hj
  · subst hv; simp [Value.ownBlock] at hj; omega
theorem owns_other {w w' : World} {base : Nat} {e : TypeId} {size : Nat} {v : Value} {n : Nat} {xs : List Value} (h : w.ownsRow base e size v n xs) {b : Nat} (hb : b < base) (hg : w.grownBy w' (some b)) : w'.ownsRow base e size v n xs :=
  h.kept hg (by
    rcases hv : v.ownBlock with _ | j
    · exact .inl rfl
    · right
      intro e
      have := owns_base' h hv
      cases e; omega)
set_option maxRecDepth 100000 in
set_option maxHeartbeats 3200000 in
theorem play_is (v : Value) (l : List Bool) (w : World) (hs : SliceIs w v 1 (l.map .bool)) (hn : l.length ≤ 400) :
    Calls Try.prog 15 #[v] w fun e w' => ∃ r, e = .returned r ∧ SliceIs w' r 1 ((wins l l.length).map (.int .i64)) ∧ Below w.heap.size w w' := by
  obtain ⟨i0, hi, hz0, hz1, hz2⟩ := info_parts infoInt
  obtain ⟨s0, n0, c0, rfl, e0, m0, k0, g0⟩ := hs.get
  simp at e0
  subst e0
  have HS := Lib.hid hs
  clear hs g0
  go_enter Try.func15, Try.ntmps15
  go_wp2_with fail
  refine (new_is w).mono ?_
  rintro e w1 ⟨rfl, F1, b1⟩
  have hlt1 := F1.lt
  go_wp2_with fail
  go_loopw [10, 4] (fun i out wr => ∃ k : Nat, i = .int .i64 k ∧ k ≤ l.length ∧ FlowAt wr w.heap.size (st l k).1 (st l k).2.1 (st l k).2.2.1 (st l k).2.2.2 ∧ wr.ownsRow (w.heap.size + 1) 3 1 out k ((wins l k).map (.int .i64)) ∧ Below w.heap.size w wr) (fun i _ _ => l.length - (intOf i).toNat)
  case atStart => exact ⟨0, rfl, by omega, by rw [st_zero]; exact F1, by rw [wins_zero]; exact World.ownsRow_nil _ _ _ _, b1⟩
  case round =>
    clear F1 b1 hlt1
    obtain ⟨k, rfl, hk, F, hown, bel⟩ := hrel
    by_cases hlt : k < l.length
    · have hltI : (k : Int) < l.length := by omega
      obtain ⟨s0', n0', c0', e1, _, _, _, g1⟩ := (HS.out.below bel).get
      cases e1
      obtain ⟨a, rfl, hc⟩ := g1 k (.bool l[k]) (by simp)
      clear g1
      have ok := st_ok l k hk
      have KK := Lib.hid (show k + 1 ≤ l.length by omega)
      have hst := st_succ l k hlt
      have hwin := wins_succ l k
      have tail : ∀ (w7 : World) (W L T G : Int), FlowAt w7 w.heap.size W L T G → st l (k + 1) = (W, L, T, G) → wr.grownBy w7 (some w.heap.size) →
          FlowAt w7 w.heap.size (st l (k + 1)).1 (st l (k + 1)).2.1 (st l (k + 1)).2.2.1 (st l (k + 1)).2.2.2 ∧ w7.ownsRow (w.heap.size + 1) 3 1 u4 k ((wins l k).map (.int .i64)) ∧ Below w.heap.size w w7 :=
        fun w7 W L T G F7 e g7 => ⟨by rw [e]; exact F7, owns_other hown (by omega) g7, bel.grown g7 bel.size (fun k hk => by cases hk; exact Nat.le_refl _)⟩
      have hk400 : k < 400 := by omega
      have TAIL := Lib.hid tail
      have HST := Lib.hid hst
      have HWIN := Lib.hid hwin
      clear tail hst hwin
      generalize hx : st l (k + 1) = x at TAIL HST HWIN
      generalize l[k] = g at hc HST
      cases g
      · go_wp2_with fail
        refine (bad_is _ _ _ _ _ _ F ok).mono ?_
        rintro e w7 ⟨rfl, F7, g7⟩
        obtain ⟨F8, hown8, bel8⟩ := TAIL.out _ _ _ _ _ F7 HST.out g7
        clear F7 g7 F hown bel ok
        have c0 := F8.c0
        have hsz := F8.lt
        go_wp2_with (at_builtin; refine wpList_append_own _ rfl _ _ 31 rfl (w.heap.size + 1) 3 i0 (.int .i64 0) 1 8 Try.underlying31 hi hz0 hz1 hz2 rfl (by decide) _ _ _ rfl (hown8.alloc _) ⟨w7.heap.size, 0, none⟩ 1 1 [.int .i64 x.1] rfl rfl (one_news (by simp)) (one_cell rfl) (by unfold maxLen; omega) (by omega) (by simp; omega) ?_; intro v' w8 hown' hgrow _)
        refine ⟨⟨k + 1, by go_num, KK.out, ?_, ?_, ?_⟩, by simp [intOf]; omega⟩
        · rw [hx]; exact FlowAt.grown (FlowAt.alloc F8 _) hgrow (fun e => by have := owns_base' hown8 e.symm; omega)
        · rw [HWIN.out]; simpa using hown'
        · refine (bel8.alloc bel8.size _).grown hgrow (Nat.le_trans bel8.size (by simp)) ?_
          intro j hj
          have := owns_base' hown8 hj
          omega
      · go_wp2_with fail
        refine (good_is _ _ _ _ _ _ F ok).mono ?_
        rintro e w7 ⟨rfl, F7, g7⟩
        obtain ⟨F8, hown8, bel8⟩ := TAIL.out _ _ _ _ _ F7 HST.out g7
        clear F7 g7 F hown bel ok
        have c0 := F8.c0
        have hsz := F8.lt
        go_wp2_with (at_builtin; refine wpList_append_own _ rfl _ _ 31 rfl (w.heap.size + 1) 3 i0 (.int .i64 0) 1 8 Try.underlying31 hi hz0 hz1 hz2 rfl (by decide) _ _ _ rfl (hown8.alloc _) ⟨w7.heap.size, 0, none⟩ 1 1 [.int .i64 x.1] rfl rfl (one_news (by simp)) (one_cell rfl) (by unfold maxLen; omega) (by omega) (by simp; omega) ?_; intro v' w8 hown' hgrow _)
        refine ⟨⟨k + 1, by go_num, KK.out, ?_, ?_, ?_⟩, by simp [intOf]; omega⟩
        · rw [hx]; exact FlowAt.grown (FlowAt.alloc F8 _) hgrow (fun e => by have := owns_base' hown8 e.symm; omega)
        · rw [HWIN.out]; simpa using hown'
        · refine (bel8.alloc bel8.size _).grown hgrow (Nat.le_trans bel8.size (by simp)) ?_
          intro j hj
          have := owns_base' hown8 hj
          omega
    · have hltI : ¬ (k : Int) < l.length := by omega
      have hkl : k = l.length := by omega
      subst hkl
      have hsl := SliceIs.owned hown
      clear hown
      go_wp2_with fail
      go_ret
      exact ⟨_, rfl, hsl, bel⟩

/-- the document's flow in block b -/
def MAt (w : World) (b : Nat) (W L T G : Int) : Prop := w.heap[b]? = some (.cells #[.int .i64 W, .int .i64 L, .int .i64 T, .int .i64 G] 29 (0, 0))
theorem MAt.lt {w : World} {b : Nat} {W L T G : Int} (h : MAt w b W L T G) : b < w.heap.size := lt_of_block h
theorem MAt.cs {w : World} {b : Nat} {W L T G : Int} (h : MAt w b W L T G) : w.cell? ⟨b, 0, none⟩ = some (.int .i64 W) ∧ w.cell? ⟨b, 1, none⟩ = some (.int .i64 L) ∧ w.cell? ⟨b, 2, none⟩ = some (.int .i64 T) ∧ w.cell? ⟨b, 3, none⟩ = some (.int .i64 G) := by unfold MAt at h; simp [World.cell?, h]
theorem MAt.fz {w : World} {b : Nat} {W L T G : Int} (h : MAt w b W L T G) (k : Nat) : w.frozen? ⟨b, k, none⟩ = false := by unfold MAt at h; simp [World.frozen?, h]
theorem MAt.grown {w w' : World} {b : Nat} {W L T G : Int} {r : Option Nat} (h : MAt w b W L T G) (hg : w.grownBy w' r) (hr : some b ≠ r) : MAt w' b W L T G := (hg.block b h.lt hr).trans h
theorem MAt.alloc {w : World} {b : Nat} {W L T G : Int} (h : MAt w b W L T G) (o : Obj) : MAt (w.alloc o) b W L T G := (Below.heap_alloc w o b h.lt).trans h
theorem MAt.below {w w' : World} {b : Nat} {W L T G : Int} (h : MAt w b W L T G) (hg : Below w.heap.size w w') : MAt w' b W L T G := (hg.block b h.lt).trans h
theorem FlowAt.below {w w' : World} {b : Nat} {W L T G : Int} (h : FlowAt w b W L T G) (hg : Below w.heap.size w w') : FlowAt w' b W L T G := (hg.block b h.lt).trans h

theorem MAt.set4 {w : World} {b : Nat} {W L T G : Int} (h : MAt w b W L T G) (W' L' T' G' : Int) :
    MAt ((((w.setCell ⟨b, 0, none⟩ (.int .i64 W')).setCell ⟨b, 1, none⟩ (.int .i64 L')).setCell ⟨b, 2, none⟩ (.int .i64 T')).setCell ⟨b, 3, none⟩ (.int .i64 G')) b W' L' T' G' ∧
    w.grownBy ((((w.setCell ⟨b, 0, none⟩ (.int .i64 W')).setCell ⟨b, 1, none⟩ (.int .i64 L')).setCell ⟨b, 2, none⟩ (.int .i64 T')).setCell ⟨b, 3, none⟩ (.int .i64 G')) (some b) :=
  ⟨set_at (set_at (set_at (set_at h))), grownBy_trans (grownBy_trans (grownBy_trans (grownBy_set _ _ _ _) (grownBy_set _ _ _ _)) (grownBy_set _ _ _ _)) (grownBy_set _ _ _ _)⟩
theorem MAt.set4' {w : World} {b : Nat} {W L T G : Int} (h : MAt w b W L T G) (W' L' T' G' : Int) :
    ∃ w', w' = ((((w.setCell ⟨b, 0, none⟩ (.int .i64 W')).setCell ⟨b, 1, none⟩ (.int .i64 L')).setCell ⟨b, 2, none⟩ (.int .i64 T')).setCell ⟨b, 3, none⟩ (.int .i64 G')) ∧ MAt w' b W' L' T' G' ∧ w.grownBy w' (some b) := ⟨_, rfl, h.set4 W' L' T' G'⟩
theorem below_grownBy {w w' : World} (h : Below w.heap.size w w') : w.grownBy w' none := ⟨h.os, h.tape, h.output, h.size, fun k hk _ => h.block k hk⟩
theorem owns_below {w w' : World} {base : Nat} {e : TypeId} {size : Nat} {v : Value} {n : Nat} {xs : List Value} (h : w.ownsRow base e size v n xs) (hb : Below w.heap.size w w') : w'.ownsRow base e size v n xs :=
  h.kept (below_grownBy hb) (by
    rcases v.ownBlock with _ | j
    · exact .inl rfl
    · exact .inr (by simp))
theorem windowQ {b : Nat} {W L T G : Int} {w : World} (h : FlowAt w b W L T G) (n : Nat) : Calls Try.prog 7 #[.pointer (some ⟨b, 0, none⟩)] (w.drewN n) fun e w' => e = .returned (.int .i64 W) ∧ w.drewN n = w' := (window_is b W L T G _ (h.drewN n)).mono fun _ _ h => ⟨h.1, h.2.symm⟩
theorem waitQ {b : Nat} {W L T G : Int} {w : World} (h : FlowAt w b W L T G) (n : Nat) : Calls Try.prog 8 #[.pointer (some ⟨b, 0, none⟩)] (w.drewN n) fun e w' => e = .returned (.int .i64 T) ∧ w.drewN n = w' := (wait_is b W L T G _ (h.drewN n)).mono fun _ _ h => ⟨h.1, h.2.symm⟩
theorem limitQ {b : Nat} {W L T G : Int} {w : World} (h : FlowAt w b W L T G) (n : Nat) : Calls Try.prog 11 #[.pointer (some ⟨b, 0, none⟩)] (w.drewN n) fun e w' => e = .returned (.int .i64 L) ∧ w.drewN n = w' := (limit_is b W L T G _ (h.drewN n)).mono fun _ _ h => ⟨h.1, h.2.symm⟩

set_option maxRecDepth 100000 in
set_option maxHeartbeats 3200000 in
theorem flowPlays_walk (s0 : Option Addr) (n0 c0 : Nat) (a0 : List Bool) (w : World) (hs : SliceIs w (.slice s0 n0 c0) 1 (a0.map .bool)) :
    Calls Try.prog 4 #[.slice s0 n0 c0] w fun e w' => e = .returned (.bool true) ∧ Below w.heap.size w w' := by
  obtain ⟨i0, hi, hz0, hz1, hz2⟩ := info_parts infoInt
  have hlen : a0.length = n0 := by
    obtain ⟨s0', n0', c0', e1, e2, _, _, _⟩ := hs.get
    cases e1
    simpa using e2
  subst hlen
  have HS := Lib.hid hs
  clear hs
  by_cases hn : a0.length ≤ 400
  · have hnI : ¬ (400 : Int) < a0.length := by omega
    go_enter Try.func4, Try.ntmps4
    go_wp2_with (go_at_call 5; refine (flowed_ok w).mono ?_; rintro e w0 ⟨rfl, b0⟩)
    refine (new_is w0).mono ?_
    rintro e w1 ⟨rfl, F1, b1⟩
    have b01 := below_trans' b0 b1
    have hb : w.heap.size ≤ w0.heap.size := b0.size
    generalize w0.heap.size = b at F1 hb ⊢
    clear b0 b1
    go_wp2_with fail
    refine (newFlow_is w1).mono ?_
    rintro e w2 ⟨rfl, b2⟩
    have F2 := F1.below b2
    have b02 := below_trans' b01 b2
    clear F1 b01 b2
    unfold flowV
    go_wp2_with fail
    have M3 : MAt (w2.alloc (.cells #[.int .i64 1, .int .i64 32, .int .i64 2, .int .i64 0] 29)) w2.heap.size 1 32 2 0 := heap_alloc_new _ _
    have F3 := FlowAt.alloc F2 (.cells #[.int .i64 1, .int .i64 32, .int .i64 2, .int .i64 0] 29)
    have b03 := b02.alloc b02.size (.cells #[.int .i64 1, .int .i64 32, .int .i64 2, .int .i64 0] 29)
    have hbm : b < w2.heap.size := F2.lt
    have hm : w.heap.size ≤ w2.heap.size := b02.size
    clear F2 b02
    generalize w2.alloc (.cells #[.int .i64 1, .int .i64 32, .int .i64 2, .int .i64 0] 29) = w3 at M3 F3 b03 ⊢
    generalize w2.heap.size = mb at M3 hbm hm ⊢
    go_loopw [7, 6] (fun i out wr => ∃ k : Nat, i = .int .i64 k ∧ k ≤ a0.length ∧ FlowAt wr b (st a0 k).1 (st a0 k).2.1 (st a0 k).2.2.1 (st a0 k).2.2.2 ∧ MAt wr mb (st a0 k).1 (st a0 k).2.1 (st a0 k).2.2.1 (st a0 k).2.2.2 ∧ wr.ownsRow (mb + 1) 3 1 out k ((wins a0 k).map (.int .i64)) ∧ Below w.heap.size w wr) (fun i _ _ => a0.length - (intOf i).toNat)
    case atStart => exact ⟨0, rfl, by omega, by rw [st_zero]; exact F3, by rw [st_zero]; exact M3, by rw [wins_zero]; exact World.ownsRow_nil _ _ _ _, b03⟩
    case round =>
      clear F3 M3 b03
      obtain ⟨k, rfl, hk, F, M, hown, bel⟩ := hrel
      by_cases hlt : k < a0.length
      · have hltI : (k : Int) < a0.length := by omega
        obtain ⟨s0', n0', c0', e1, _, _, _, g1⟩ := (HS.out.below bel).get
        cases e1
        obtain ⟨a, rfl, hc⟩ := g1 k (.bool a0[k]) (by simp)
        have hab : (a.add k).block < w.heap.size := by
          obtain ⟨_, _, _, e2, _, _, _, g2⟩ := HS.out.get
          cases e2
          obtain ⟨a', e3, h3⟩ := g2 k (.bool a0[k]) (by simp)
          cases e3
          exact World.block_lt_of_cell? w (a.add k) h3
        clear g1
        have ok := st_ok a0 k hk
        have KK := Lib.hid (show k + 1 ≤ a0.length by omega)
        have HST := Lib.hid (st_succ a0 k hlt)
        have HWIN := Lib.hid (wins_succ a0 k)
        generalize hx : st a0 (k + 1) = x at HST HWIN
        generalize hy : st a0 k = y at HST F M ok
        obtain ⟨W, L, T, G⟩ := y
        simp only [] at F M ok HST
        have x1 : (0 : Int) ≤ k := by omega
        have x2 : (k : Int).toNat = k := by omega
        generalize a0[k] = g at hc HST
        cases g
        · go_wp2_with fail
          refine (bad_is _ _ _ _ _ _ F ok).mono ?_
          rintro e w7 ⟨rfl, F7, g7⟩
          have M7 := M.grown g7 (by simp; omega)
          have hown7 := owns_other hown (by omega) g7
          have bel7 := bel.grown g7 bel.size (fun k hk => by cases hk; exact hb)
          have hc7 := g7.cell hc (by intro h; have h' : (a.add k).block = b := Option.some.inj h; omega)
          have NB := fun w => next_bad W L T G w ok
          unfold flowV at NB
          have hx' := HST.out
          simp only [step] at hx'
          clear F g7 M hown bel hc HST ok
          obtain ⟨d0, d1, d2, d3⟩ := M7.cs
          have e0 := M7.fz 0
          go_wp2_with fail
          go_region_with (go_at_call 13; refine (NB _).mono ?_; rintro e w8 ⟨rfl, b8⟩; have M8 := MAt.below (w := w7.drewN _) M7 b8; have F8 := FlowAt.below (w := w7.drewN _) F7 b8; have hown8 := owns_below (w := w7.drewN _) hown7 b8; obtain ⟨d0, d1, d2, d3⟩ := M8.cs; have e8 := M8.fz)
          all_goals
            have bel8 := below_trans' (w1 := w7.drew) bel7.drew b8
            obtain ⟨w9, hw9, M9, g9⟩ := M8.set4' 1 (badL W) (badT T) 0
            rw [← hw9]
            clear hw9
            have F9 := F8.grown g9 (by simp; omega)
            have hown9 := owns_other hown8 (by omega) g9
            have bel9 := bel8.grown g9 bel8.size (fun k hk => by cases hk; exact hm)
            clear d0 d1 d2 d3 e8 M8 F8 hown8 bel8 M7 hown7 bel7 F7 e0 b8 g9
            have hsz := M9.lt
            obtain ⟨d0, d1, d2, d3⟩ := M9.cs
            go_wp2_with fail
            go_quiet ((first | (go_at_call 7; first | exact quiet_left (windowQ F9 _) | exact quiet_add_left (windowQ F9 _)) | (go_at_call 11; first | exact quiet_left (limitQ F9 _) | exact quiet_add_left (limitQ F9 _)) | (go_at_call 8; first | exact quiet_left (waitQ F9 _) | exact quiet_add_left (waitQ F9 _))))
            have Fq := F9.drewN nq
            have Mq := (show MAt (w9.drewN nq) _ _ _ _ _ from M9)
            have hownq := (show (w9.drewN nq).ownsRow _ _ _ _ _ _ from hown9)
            have belq := below_drewN bel9 nq
            have hszq := (show mb < (w9.drewN nq).heap.size from hsz)
            clear F9 M9 hown9 bel9 hsz d0 d1 d2 d3
            generalize w9.drewN nq = wq at *
            obtain ⟨d0, d1, d2, d3⟩ := Mq.cs
            go_wp2_with (at_builtin; refine wpList_append_own _ rfl _ _ 31 rfl (mb + 1) 3 i0 (.int .i64 0) 1 8 Try.underlying31 hi hz0 hz1 hz2 rfl (by decide) _ _ _ rfl (hownq.alloc _) ⟨wq.heap.size, 0, none⟩ 1 1 [.int .i64 1] rfl rfl (one_news (by simp)) (one_cell rfl) (by unfold maxLen; omega) (by omega) (by simp; omega) ?_; intro v' w10 hown' hgrow _)
            refine ⟨⟨k + 1, by go_num, KK.out, ?_, ?_, ?_, ?_⟩, by simp [intOf]; omega⟩
            · rw [hx, hx']; exact FlowAt.grown (FlowAt.alloc Fq _) hgrow (fun e => by have := owns_base' hownq e.symm; omega)
            · rw [hx, hx']; exact MAt.grown (MAt.alloc Mq _) hgrow (fun e => by have := owns_base' hownq e.symm; omega)
            · rw [HWIN.out, hx']; simpa using hown'
            · refine (belq.alloc belq.size _).grown hgrow (Nat.le_trans belq.size (by simp)) ?_
              intro j hj
              have := owns_base' hownq hj
              omega
        · go_wp2_with fail
          refine (good_is _ _ _ _ _ _ F ok).mono ?_
          rintro e w7 ⟨rfl, F7, g7⟩
          have M7 := M.grown g7 (by simp; omega)
          have hown7 := owns_other hown (by omega) g7
          have bel7 := bel.grown g7 bel.size (fun k hk => by cases hk; exact hb)
          have hc7 := g7.cell hc (by intro h; have h' : (a.add k).block = b := Option.some.inj h; omega)
          have NB := fun w => next_good W L T G w ok
          unfold flowV at NB
          have hx' := HST.out
          simp only [step] at hx'
          clear F g7 M hown bel hc HST ok
          obtain ⟨d0, d1, d2, d3⟩ := M7.cs
          have e0 := M7.fz 0
          go_wp2_with fail
          go_region_with (go_at_call 13; refine (NB _).mono ?_; rintro e w8 ⟨rfl, b8⟩; have M8 := MAt.below (w := w7.drewN _) M7 b8; have F8 := FlowAt.below (w := w7.drewN _) F7 b8; have hown8 := owns_below (w := w7.drewN _) hown7 b8; obtain ⟨d0, d1, d2, d3⟩ := M8.cs; have e8 := M8.fz)
          all_goals
            have bel8 := below_trans' (w1 := w7.drew) bel7.drew b8
            obtain ⟨w9, hw9, M9, g9⟩ := M8.set4' (goodW W L G) L 2 (goodG W L G)
            rw [← hw9]
            clear hw9
            have F9 := F8.grown g9 (by simp; omega)
            have hown9 := owns_other hown8 (by omega) g9
            have bel9 := bel8.grown g9 bel8.size (fun k hk => by cases hk; exact hm)
            clear d0 d1 d2 d3 e8 M8 F8 hown8 bel8 M7 hown7 bel7 F7 e0 b8 g9
            have hsz := M9.lt
            obtain ⟨d0, d1, d2, d3⟩ := M9.cs
            go_wp2_with fail
            go_quiet ((first | (go_at_call 7; first | exact quiet_left (windowQ F9 _) | exact quiet_add_left (windowQ F9 _)) | (go_at_call 11; first | exact quiet_left (limitQ F9 _) | exact quiet_add_left (limitQ F9 _)) | (go_at_call 8; first | exact quiet_left (waitQ F9 _) | exact quiet_add_left (waitQ F9 _))))
            have Fq := F9.drewN nq
            have Mq := (show MAt (w9.drewN nq) _ _ _ _ _ from M9)
            have hownq := (show (w9.drewN nq).ownsRow _ _ _ _ _ _ from hown9)
            have belq := below_drewN bel9 nq
            have hszq := (show mb < (w9.drewN nq).heap.size from hsz)
            clear F9 M9 hown9 bel9 hsz d0 d1 d2 d3
            generalize w9.drewN nq = wq at *
            obtain ⟨d0, d1, d2, d3⟩ := Mq.cs
            go_wp2_with (at_builtin; refine wpList_append_own _ rfl _ _ 31 rfl (mb + 1) 3 i0 (.int .i64 0) 1 8 Try.underlying31 hi hz0 hz1 hz2 rfl (by decide) _ _ _ rfl (hownq.alloc _) ⟨wq.heap.size, 0, none⟩ 1 1 [.int .i64 (goodW W L G)] rfl rfl (one_news (by simp)) (one_cell rfl) (by unfold maxLen; omega) (by omega) (by simp; omega) ?_; intro v' w10 hown' hgrow _)
            refine ⟨⟨k + 1, by go_num, KK.out, ?_, ?_, ?_, ?_⟩, by simp [intOf]; omega⟩
            · rw [hx, hx']; exact FlowAt.grown (FlowAt.alloc Fq _) hgrow (fun e => by have := owns_base' hownq e.symm; omega)
            · rw [hx, hx']; exact MAt.grown (MAt.alloc Mq _) hgrow (fun e => by have := owns_base' hownq e.symm; omega)
            · rw [HWIN.out, hx']; simpa using hown'
            · refine (belq.alloc belq.size _).grown hgrow (Nat.le_trans belq.size (by simp)) ?_
              intro j hj
              have := owns_base' hownq hj
              omega
      · have hltI : ¬ (k : Int) < a0.length := by omega
        have hkl : k = a0.length := by omega
        subst hkl
        obtain ⟨iB, hiB, hzB0, hzB1, hzB2⟩ := info_parts infoBool
        have HW := Lib.hid (SliceIs.owned hown)
        have hsr := HS.out.below bel
        have hown0 := World.ownsRow_nil wr wr.heap.size 4 1
        clear F M hown
        rcases hsr with ⟨h1, h2⟩ | ⟨a, len, cap, h1, h2, h3, h4, h5⟩
        · have hl0 : a0 = [] := by simpa using h2
          injection h1 with q1 q2 q3
          subst hl0 q1 q3
          clear q2
          go_wp2_with (at_builtin; refine wpList_append_own_none _ rfl _ _ _ rfl wr.heap.size 4 iB 1 Try.underlying22 hiB hzB1 _ _ _ rfl hown0 _ rfl ?_)
          refine (play_is _ [] wr (.inl ⟨rfl, rfl⟩) hn).mono ?_
          rintro e w3 ⟨r, rfl, hr, b3⟩
          have HR := Lib.hid hr
          have bel3 := below_trans' bel b3
          obtain ⟨s3, n3, c3, rfl, _, _, _, _⟩ := hr.get
          have SI := Lib.hid (sameInts_is _ _ _ _ w3 HR.out (HW.out.below b3))
          clear hr bel b3
          go_wp2_with fail
          refine SI.out.mono ?_
          rintro e w4 ⟨rfl, d4⟩
          go_wp2_with fail
          go_ret
          exact ⟨by simp, below_trans' bel3 (d4.below _)⟩
        · cases h1
          have hO := Lib.hid h5
          have HM1 : Hid (0 + a0.length ≤ maxLen) := by show _ ≤ _; unfold maxLen; omega
          have HM2 : Hid ((0 + a0.length) * 1 ≤ 140737488355328) := by show _ ≤ _; omega
          have HL := Lib.hid h4
          have HC : Hid (∀ u ∈ a0.map Value.bool, u.oneCell' = true) := fun u hu => by
            obtain ⟨b, _, rfl⟩ := List.mem_map.1 hu; rfl
          clear h5 h4
          go_wp2_with (at_builtin; refine wpList_append_own _ rfl _ _ 22 rfl wr.heap.size 4 iB _ 1 1 Try.underlying22 hiB hzB0 hzB1 hzB2 rfl (by decide) _ _ _ rfl hown0 a a0.length c0 (a0.map .bool) rfl HL.out hO.out HC.out HM1.out HM2.out (Nat.le_refl _) ?_; intro v' w2 hown' hgrow _)
          have b2 : Below wr.heap.size wr w2 := (Below.refl _ wr).grown hgrow (Nat.le_refl _) (fun k hk => (hown0.lt k hk).1)
          have hown'' : w2.ownsRow wr.heap.size 4 1 v' (0 + a0.length) (a0.map .bool) := by simpa using hown'
          have HSL := Lib.hid (SliceIs.owned hown'')
          have bel2 := below_trans' bel b2
          have HW2 := Lib.hid (HW.out.below b2)
          clear hown' hown'' hgrow bel b2 HW
          refine (play_is _ a0 w2 HSL.out hn).mono ?_
          rintro e w3 ⟨r, rfl, hr, b3⟩
          have HR := Lib.hid hr
          have bel3 := below_trans' bel2 b3
          obtain ⟨s3, n3, c3, rfl, _, _, _, _⟩ := hr.get
          have SI := Lib.hid (sameInts_is _ _ _ _ w3 HR.out (HW2.out.below b3))
          clear hr bel2 b3
          go_wp2_with fail
          refine SI.out.mono ?_
          rintro e w4 ⟨rfl, d4⟩
          go_wp2_with fail
          go_ret
          exact ⟨by simp, below_trans' bel3 (d4.below _)⟩
  · have hnI : (400 : Int) < a0.length := by omega
    go_enter Try.func4, Try.ntmps4
    go_wp2_with (go_at_call 5; refine (flowed_ok w).mono ?_; rintro e w0 ⟨rfl, b0⟩)
    go_ret
    exact ⟨rfl, b0⟩
end Go.Proofs.Ytdbcplecjiknhaa
