/- Contracts of (*Sender).Take, (*Receiver).Ack. -/
import Derived.Test.YtnjkopjbognpiaaDoorWinKept
import Derived.Shelf.Abstract
namespace Go.Proofs.YtnjkopjbognpiaaDoor
open Go.RowKit Go.Shelf
set_option linter.unusedVariables false

set_option maxRecDepth 100000 in
set_option maxHeartbeats 3200000 in
/-- the closure of Take -/
theorem tk1_any (k : PK) (b5 b6 b3 : Nat) (oldest far nx : Int) (more : List Int) (mv : Value) (w : World) (hk : 0 ≤ k.n ∧ k.n < 65536) (ho : 0 ≤ oldest ∧ oldest < 65536)
    (c5 : w.cell? ⟨b5, 0, none⟩ = some (.int .i64 oldest)) (c6 : w.cell? ⟨b6, 0, none⟩ = some (.int .i64 far)) (c3 : w.cell? ⟨b3, 1, none⟩ = some mv) (hm : SliceIs w mv 1 (more.map (Value.int .i64))) :
    Calls Tryd.prog 30 #[.agg #[.int .i64 k.n, .string (bs k.d)], .pointer (some ⟨b5, 0, none⟩), .pointer (some ⟨b6, 0, none⟩), .pointer (some ⟨b3, 0, none⟩)] w fun e w' => e = .returned (.bool (goneB far oldest more k)) ∧ Below w.heap.size w w' := by
  have hw := md_sub hk ho
  have WM := Lib.hid (fun w' => wmod_any (k.n - oldest) w')
  have h5 := World.block_lt_of_cell? w _ c5
  have h6 := World.block_lt_of_cell? w _ c6
  have h3 := World.block_lt_of_cell? w _ c3
  have n5 : b5 ≠ w.heap.size := by have : b5 < w.heap.size := h5; omega
  have n6 : b6 ≠ w.heap.size := by have : b6 < w.heap.size := h6; omega
  have n3 : b3 ≠ w.heap.size := by have : b3 < w.heap.size := h3; omega
  obtain ⟨s, n, c, rfl, hn, _⟩ := hm.get
  have CT := Lib.hid (fun (w' : World) (h : SliceIs w' (.slice s n c) 1 (more.map (Value.int .i64))) => contains_any s n c more k.n w' h)
  have HM := Lib.hid (hm.below (wb_alloc w (.cells #[.int .i64 k.n, .string (bs k.d)] 68)))
  have HG := Lib.hid (show goneB far oldest more k = (decide (md (k.n - oldest) < far) || more.contains k.n) from rfl)
  have hb := Lib.hid (wb_alloc w (.cells #[.int .i64 k.n, .string (bs k.d)] 68))
  generalize md (k.n - oldest) = z at *
  generalize more.contains k.n = m at *
  clear hm hn
  by_cases h : z < far
  · have hd : decide (z < far) = true := by simpa using h
    go_enter Tryd.func30, Tryd.ntmps30
    go_wp2_with fail
    go_quiet ((go_at_call 27; first | exact quiet_left (WM.out _) | exact quiet_add_left (WM.out _)))
    go_wp2_with fail
    go_ret
    exact ⟨by rw [HG.out, hd]; rfl, below_drewN hb.out _⟩
  · have hd : decide (z < far) = false := by simpa using h
    go_enter Tryd.func30, Tryd.ntmps30
    go_wp2_with fail
    go_quiet ((first | (go_at_call 27; first | exact quiet_left (WM.out _) | exact quiet_add_left (WM.out _)) | (go_at_call 31; first | exact quiet_left (CT.out _ (HM.out.drewN _)) | exact quiet_add_left (CT.out _ (HM.out.drewN _)))))
    go_wp2_with fail
    go_ret
    exact ⟨by rw [HG.out, hd]; rfl, below_drewN hb.out _⟩

theorem farOf_no {next oldest nx : Int} (h : ¬ (wlB nx = true ∧ md (nx - oldest) ≤ md (next - oldest))) : farOf next oldest nx = 0 := by
  unfold farOf; rw [if_neg]; simpa using h
theorem farOf_yes {next oldest nx : Int} (h : wlB nx = true ∧ md (nx - oldest) ≤ md (next - oldest)) : farOf next oldest nx = md (nx - oldest) := by
  unfold farOf; rw [if_pos]; simpa using h
theorem filterK_len (p : PK → Bool) (l : List PK) : (l.filter p).length ≤ l.length := List.length_filter_le _ _
/-- the cells that the closure reads stand, whatever the row holds -/
theorem chg_cell {w W : World} {v : Value} {b o : Nat} {u : Value} (hc : Chg w W (RowOf v)) (h : w.cell? ⟨b, o, none⟩ = some u) (hn : v.ownBlock ≠ some b) : W.cell? ⟨b, o, none⟩ = some u := by
  have hb := hc.block b (World.block_lt_of_cell? w _ h) hn
  rw [← h]
  exact World.cell?_of_block hb
theorem chg_slice {w W : World} {v mv : Value} {xs : List Value} (hc : Chg w W (RowOf v)) (h : SliceIs w mv 1 xs) (hn : ∀ s n c b, mv = .slice (some s) n c → s.block = b → v.ownBlock ≠ some b) : SliceIs W mv 1 xs := by
  rcases h with h | ⟨a, len, cap, h1, h2, h3, h4, h5⟩
  · exact .inl h
  · refine .inr ⟨a, len, cap, h1, h2, h3, h4, fun i u hi => ?_⟩
    have hcell := h5 i u hi
    have hb := hc.block (a.add i).block (World.block_lt_of_cell? w _ hcell) (by
      have : (a.add i).block = a.block := by unfold Addr.add; split <;> rfl
      rw [this]
      exact hn a len cap _ h1 rfl)
    rw [← hcell]
    exact World.cell?_of_block hb

theorem enterTk1 : ∀ args w, (callFunc 30 args).run Tryd.prog w = .ok (.enter 30 args) w := enters_of Tryd.func30 (by kernel_rfl) rfl
set_option maxRecDepth 100000 in
set_option maxHeartbeats 6400000 in
theorem stake_nil (base sb : Nat) (v mv : Value) (next nx : Int) (w : World) (h : SndAt w base sb v next []) :
    Calls Tryd.prog 13 #[.pointer (some ⟨sb, 0, none⟩), .agg #[.int .i64 nx, mv]] w fun e w' => e = .returned (.int .i64 0) ∧ SndTo w w' base sb v next [] := by
  obtain ⟨⟨c0, c1⟩, _⟩ := h.cs
  obtain ⟨va, vc, rfl⟩ := owns_slice h.own
  have HH := Lib.hid h
  have hsb := lt_of_block h.cells
  have hne : sb ≠ w.heap.size := by omega
  clear h
  go_enter Tryd.func13, Tryd.ntmps13
  go_wp2_with fail
  go_ret
  exact ⟨rfl, SndTo.same HH.out (wb_alloc w _)⟩

theorem three_heap (w : World) (o1 o2 o3 : Obj) : (((w.alloc o1).alloc o2).alloc o3).heap[w.heap.size]? = some o1 ∧ (((w.alloc o1).alloc o2).alloc o3).heap[w.heap.size + 1]? = some o2 ∧ (((w.alloc o1).alloc o2).alloc o3).heap[w.heap.size + 1 + 1]? = some o3 := by
  have s1 : (w.alloc o1).heap.size = w.heap.size + 1 := by simp
  have s2 : ((w.alloc o1).alloc o2).heap.size = w.heap.size + 1 + 1 := by simp
  refine ⟨?_, ?_, ?_⟩
  · exact (heap_alloc_old _ o3 (by rw [s2]; omega)).trans ((heap_alloc_old _ o2 (by rw [s1]; omega)).trans (heap_alloc_new _ _))
  · refine (heap_alloc_old _ o3 (by rw [s2]; omega)).trans ?_
    have := heap_alloc_new (w.alloc o1) o2
    rwa [s1] at this
  · have := heap_alloc_new ((w.alloc o1).alloc o2) o3
    rwa [s2] at this
theorem cell_heap {w : World} {b i : Nat} {cs : Array Value} {t : TypeId} {fr : Nat × Nat} {v : Value} (h : w.heap[b]? = some (.cells cs t fr)) (hi : cs[i]? = some v) : w.cell? ⟨b, i, none⟩ = some v := by
  simp [World.cell?, h, hi]
theorem take_cells (w : World) (nx old : Int) (mv : Value) (ta tb : TypeId) (nq : Nat) :
    ((((w.alloc (.cells #[.int .i64 nx, mv] ta)).alloc (.cells #[.int .i64 old] tb)).alloc (.cells #[.int .i64 0] tb)).drewN nq).cell? ⟨w.heap.size + 1, 0, none⟩ = some (.int .i64 old) ∧
    ((((w.alloc (.cells #[.int .i64 nx, mv] ta)).alloc (.cells #[.int .i64 old] tb)).alloc (.cells #[.int .i64 0] tb)).drewN nq).cell? ⟨w.heap.size + 1 + 1, 0, none⟩ = some (.int .i64 0) ∧
    ((((w.alloc (.cells #[.int .i64 nx, mv] ta)).alloc (.cells #[.int .i64 old] tb)).alloc (.cells #[.int .i64 0] tb)).drewN nq).cell? ⟨w.heap.size, 1, none⟩ = some mv := by
  obtain ⟨h1, h2, h3⟩ := three_heap w (.cells #[.int .i64 nx, mv] ta) (.cells #[.int .i64 old] tb) (.cells #[.int .i64 0] tb)
  exact ⟨cell_heap (w := World.drewN _ nq) h2 rfl, cell_heap (w := World.drewN _ nq) h3 rfl, cell_heap (w := World.drewN _ nq) h1 rfl⟩
theorem take_cells' (w : World) (nx old z : Int) (mv : Value) (ta tb : TypeId) (nq : Nat) :
    (((((w.alloc (.cells #[.int .i64 nx, mv] ta)).alloc (.cells #[.int .i64 old] tb)).alloc (.cells #[.int .i64 0] tb)).drewN nq).setCell ⟨w.heap.size + 1 + 1, 0, none⟩ (.int .i64 z)).cell? ⟨w.heap.size + 1, 0, none⟩ = some (.int .i64 old) ∧
    (((((w.alloc (.cells #[.int .i64 nx, mv] ta)).alloc (.cells #[.int .i64 old] tb)).alloc (.cells #[.int .i64 0] tb)).drewN nq).setCell ⟨w.heap.size + 1 + 1, 0, none⟩ (.int .i64 z)).cell? ⟨w.heap.size + 1 + 1, 0, none⟩ = some (.int .i64 z) ∧
    (((((w.alloc (.cells #[.int .i64 nx, mv] ta)).alloc (.cells #[.int .i64 old] tb)).alloc (.cells #[.int .i64 0] tb)).drewN nq).setCell ⟨w.heap.size + 1 + 1, 0, none⟩ (.int .i64 z)).cell? ⟨w.heap.size, 1, none⟩ = some mv := by
  obtain ⟨h1, h2, h3⟩ := three_heap w (.cells #[.int .i64 nx, mv] ta) (.cells #[.int .i64 old] tb) (.cells #[.int .i64 0] tb)
  refine ⟨cell_heap ((Below.heap_setCell _ _ _ _ (by simp)).trans (show (World.drewN _ nq).heap[_]? = _ from h2)) rfl, ?_, cell_heap ((Below.heap_setCell _ _ _ _ (by simp; try omega)).trans (show (World.drewN _ nq).heap[_]? = _ from h1)) rfl⟩
  exact cell_heap (set_at (show (World.drewN _ nq).heap[_]? = _ from h3)) rfl
theorem take_del {w W0 : World} {base sb a cap : Nat} {mv : Value} {next far oldest nx : Int} {L : List PK} {more : List Int} {b5 b6 b3 : Nat} (h : SndAt w base sb (.slice (some ⟨a, 0, none⟩) L.length cap) next L) (hk : KOk L) (ho : 0 ≤ oldest ∧ oldest < 65536)
    (hb : Below w.heap.size w W0) (h5 : w.heap.size ≤ b5) (h6 : w.heap.size ≤ b6) (h3 : w.heap.size ≤ b3) (c5 : W0.cell? ⟨b5, 0, none⟩ = some (.int .i64 oldest)) (c6 : W0.cell? ⟨b6, 0, none⟩ = some (.int .i64 far)) (c3 : W0.cell? ⟨b3, 1, none⟩ = some mv)
    (hm : SliceIs w mv 1 (more.map (Value.int .i64))) (hmv : ∀ s n c b, mv = .slice (some s) n c → s.block = b → (Value.slice (some ⟨a, 0, none⟩) L.length cap).ownBlock ≠ some b) :
    Calls Tryd.prog 29 #[.slice (some ⟨a, 0, none⟩) L.length cap, .func (.func 30) #[] #[.pointer (some ⟨b5, 0, none⟩), .pointer (some ⟨b6, 0, none⟩), .pointer (some ⟨b3, 0, none⟩)]] W0 fun e w' =>
      ∃ v', e = .returned v' ∧ w'.ownsRow base 68 2 v' (L.filter fun k => !goneB far oldest more k).length (kcells (L.filter fun k => !goneB far oldest more k)) ∧ v'.ownBlock = some a ∧ Chg W0 w' (fun x => x = a) := by
  have has := h.own.lt a rfl
  have key := delKept_any (fun k : PK => Value.int .i64 k.n) (fun k : PK => Value.string (bs k.d)) (fun _ => ⟨rfl, rfl⟩) (goneB far oldest more) 30 #[.pointer (some ⟨b5, 0, none⟩), .pointer (some ⟨b6, 0, none⟩), .pointer (some ⟨b3, 0, none⟩)] enterTk1 base
    (.slice (some ⟨a, 0, none⟩) L.length cap) L W0 (owns_below h.own hb) (fun W x hx hc =>
      tk1_any x b5 b6 b3 oldest far nx more mv W (hk x hx) ho (chg_cell hc c5 (by simp [Value.ownBlock]; omega)) (chg_cell hc c6 (by simp [Value.ownBlock]; omega)) (chg_cell hc c3 (by simp [Value.ownBlock]; omega)) (chg_slice hc (hm.below hb) hmv))
  refine key.mono ?_
  rintro e w' ⟨v', rfl, h1, h2, h4⟩
  exact ⟨v', rfl, h1, h2, h4.more (fun x _ hx => by simpa [RowOf, Value.ownBlock, eq_comm] using hx)⟩
theorem take_cell {w W0 w2 : World} {base sb a cap : Nat} {next : Int} {L : List PK} (h : SndAt w base sb (.slice (some ⟨a, 0, none⟩) L.length cap) next L) (hb : Below w.heap.size w W0) (hc : Chg W0 w2 (fun x => x = a)) :
    w2.heap[sb]? = some (.cells #[.int .i64 next, .slice (some ⟨a, 0, none⟩) L.length cap] 61 (0, 0)) := by
  have hs := lt_of_block h.cells
  have hne := h.ne
  rw [hc.block sb (Nat.lt_of_lt_of_le hs hb.size) (by intro e; apply hne; simp [Value.ownBlock, e]), hb.block sb hs]
  exact h.cells
theorem take_end {w W0 w2 : World} {base sb a cap : Nat} {next : Int} {L L2 : List PK} {v' : Value} (h : SndAt w base sb (.slice (some ⟨a, 0, none⟩) L.length cap) next L) (hb : Below w.heap.size w W0) (hc : Chg W0 w2 (fun x => x = a))
    (ho : w2.ownsRow base 68 2 v' L2.length (kcells L2)) (hv : v'.ownBlock = some a) : SndTo w (w2.setCell ⟨sb, 1, none⟩ v') base sb (.slice (some ⟨a, 0, none⟩) L.length cap) next L2 := by
  have hne : a ≠ sb := by have := h.ne; simpa [Value.ownBlock] using this
  have x1 := set_at (k := 1) (u := v') (take_cell h hb hc)
  refine ⟨v', ⟨by simpa using x1, ?_, h.lo, by rw [hv]; simpa using hne, h.next⟩, ?_, fun x hx => ?_⟩
  · exact own_other ho ((Chg.refl w2 (fun x => x = sb)).set ⟨sb, 1, none⟩ (.inl rfl) v') (fun x hx e => by rw [hv] at hx; simp at hx; omega)
  · have c1 : Chg w W0 (SFoot sb (.slice (some ⟨a, 0, none⟩) L.length cap)) := Chg.of_below hb _
    exact (c1.trans hc (fun x _ hx => .inr (by rw [hx]; rfl))).set ⟨sb, 1, none⟩ (.inl (.inl rfl)) v'
  · left; rw [hv] at hx; simpa [Value.ownBlock] using hx

set_option maxRecDepth 100000 in
set_option maxHeartbeats 6400000 in
theorem stake_yes (base sb : Nat) (v mv : Value) (next nx : Int) (o : PK) (r : List PK) (more : List Int) (w : World) (h : SndAt w base sb v next (o :: r)) (hk : KOk (o :: r)) (hm : SliceIs w mv 1 (more.map (Value.int .i64)))
    (hmv : ∀ s n c b, mv = .slice (some s) n c → s.block = b → v.ownBlock ≠ some b) (hlen : (o :: r).length ≤ 1000000) (hw : wlB nx = true ∧ md (nx - o.n) ≤ md (next - o.n)) :
    Calls Tryd.prog 13 #[.pointer (some ⟨sb, 0, none⟩), .agg #[.int .i64 nx, mv]] w fun e w' => e = .returned (.int .i64 (((o :: r).length : Int) - (sTake next (o :: r) nx more).length)) ∧ SndTo w w' base sb v next (sTake next (o :: r) nx more) := by
  rw [sTake_cons, farOf_yes hw]
  obtain ⟨⟨c0, c1⟩, cf⟩ := h.cs
  have f1 := cf 1
  obtain ⟨a, cap, hv, hab, has, _, _, hcell, _⟩ := owns_open h.own (by simp)
  subst hv
  have d0 := hcell 0 (.int .i64 o.n) (by rw [kcells_cons]; rfl)
  have ho := hk o (by simp)
  have hn := h.next
  have hw1 := md_sub (wlB_true hw.1) ho
  have hw2 := md_sub hn ho
  have WL := Lib.hid (fun w' => wwell_any nx w')
  rw [hw.1] at WL
  have WM := Lib.hid (fun w' => wmod_any (nx - o.n) w')
  have WN := Lib.hid (fun w' => wmod_any (next - o.n) w')
  have hle := hw.2
  clear hw
  have hsb := lt_of_block h.cells
  have hne := h.ne
  have h00 : 0 < (o :: r).length := by simp
  have HH := Lib.hid h
  have HK := Lib.hid hk
  have HM := Lib.hid hm
  have HMV := Lib.hid hmv
  have HO := Lib.hid ho
  generalize md (nx - o.n) = z at *
  generalize md (next - o.n) = y at *
  have hfl := filterK_len (fun k => !goneB z o.n more k) (o :: r)
  generalize hll : (o :: r) = L at *
  have DEL := Lib.hid (fun (W0 : World) (b5 b6 b3 : Nat) hb h5 h6 h3 c5 c6 c3 => take_del (W0 := W0) (far := z) (oldest := o.n) (nx := nx) (more := more) (b5 := b5) (b6 := b6) (b3 := b3) (mv := mv) HH.out HK.out HO.out hb h5 h6 h3 c5 c6 c3 HM.out HMV.out)
  generalize (L.filter fun k => !goneB z o.n more k) = L2 at *
  have n1 : sb ≠ w.heap.size := by omega
  have n2 : sb ≠ w.heap.size + 1 := by omega
  have n3 : sb ≠ w.heap.size + 2 := by omega
  have n4 : a ≠ w.heap.size := by omega
  have n5 : a ≠ w.heap.size + 1 := by omega
  have n6 : a ≠ w.heap.size + 2 := by omega
  have n7 : sb < w.heap.size + 1 := by omega
  have n8 : sb < w.heap.size + 1 + 1 := by omega
  have B3 := Lib.hid (((wb_alloc w (.cells #[.int .i64 nx, mv] 49)).alloc (by simp) (.cells #[.int .i64 o.n] 3)).alloc (by simp; omega) (.cells #[.int .i64 0] 3))
  clear h hk hm hmv hcell cf hll ho
  go_enter Tryd.func13, Tryd.ntmps13
  go_wp2_with fail
  go_quiet ((first | (go_at_call 26; first | exact quiet_left (WL.out _) | exact quiet_add_left (WL.out _)) | (go_at_call 27; first | exact quiet_left (WM.out _) | exact quiet_add_left (WM.out _) | exact quiet_left (WN.out _) | exact quiet_add_left (WN.out _))))
  go_wp2_with fail
  refine (WM.out _).mono ?_
  rintro e w1 ⟨rfl, rfl⟩
  go_wp2_with fail
  refine (DEL.out _ (w.heap.size + 1) (w.heap.size + 1 + 1) w.heap.size ?_ ?_ ?_ ?_ ?_ ?_ ?_).mono ?_
  · exact (below_drewN B3.out _).setCell (p := ⟨w.heap.size + 1 + 1, 0, none⟩) (by simp; omega) _
  · omega
  · omega
  · exact Nat.le_refl _
  · exact (take_cells' _ _ _ _ _ _ _ _).1
  · exact (take_cells' _ _ _ _ _ _ _ _).2.1
  · exact (take_cells' _ _ _ _ _ _ _ _).2.2
  rintro e w2 ⟨v', rfl, O2, ob, ch⟩
  have HC := Lib.hid ch
  have HO2 := Lib.hid O2
  have HOB := Lib.hid ob
  obtain ⟨va, vc, rfl⟩ := owns_slice O2
  obtain ⟨e0, e1, e2, e3⟩ := snd_cs (take_cell HH.out ((below_drewN B3.out _).setCell (p := ⟨w.heap.size + 1 + 1, 0, none⟩) (by simp; omega) _) HC.out)
  clear ch O2 ob
  go_wp2_with fail
  go_ret
  exact ⟨rfl, take_end HH.out ((below_drewN B3.out _).setCell (p := ⟨w.heap.size + 1 + 1, 0, none⟩) (by simp; omega) _) HC.out HO2.out HOB.out⟩

set_option maxRecDepth 100000 in
set_option maxHeartbeats 6400000 in
theorem stake_no1 (base sb : Nat) (v mv : Value) (next nx : Int) (o : PK) (r : List PK) (more : List Int) (w : World) (h : SndAt w base sb v next (o :: r)) (hk : KOk (o :: r)) (hm : SliceIs w mv 1 (more.map (Value.int .i64)))
    (hmv : ∀ s n c b, mv = .slice (some s) n c → s.block = b → v.ownBlock ≠ some b) (hlen : (o :: r).length ≤ 1000000) (hw : wlB nx = false) :
    Calls Tryd.prog 13 #[.pointer (some ⟨sb, 0, none⟩), .agg #[.int .i64 nx, mv]] w fun e w' => e = .returned (.int .i64 (((o :: r).length : Int) - (sTake next (o :: r) nx more).length)) ∧ SndTo w w' base sb v next (sTake next (o :: r) nx more) := by
  rw [sTake_cons, farOf_no (by rw [hw]; simp)]
  obtain ⟨⟨c0, c1⟩, cf⟩ := h.cs
  have f1 := cf 1
  obtain ⟨a, cap, hv, hab, has, _, _, hcell, _⟩ := owns_open h.own (by simp)
  subst hv
  have d0 := hcell 0 (.int .i64 o.n) (by rw [kcells_cons]; rfl)
  have ho := hk o (by simp)
  have hn := h.next
  have WL := Lib.hid (fun w' => wwell_any nx w')
  rw [hw] at WL
  clear hw
  have hsb := lt_of_block h.cells
  have hne := h.ne
  have h00 : 0 < (o :: r).length := by simp
  have HH := Lib.hid h
  have HK := Lib.hid hk
  have HM := Lib.hid hm
  have HMV := Lib.hid hmv
  have HO := Lib.hid ho
  generalize md (nx - o.n) = z at *
  generalize md (next - o.n) = y at *
  have hfl := filterK_len (fun k => !goneB 0 o.n more k) (o :: r)
  generalize hll : (o :: r) = L at *
  have DEL := Lib.hid (fun (W0 : World) (b5 b6 b3 : Nat) hb h5 h6 h3 c5 c6 c3 => take_del (W0 := W0) (far := 0) (oldest := o.n) (nx := nx) (more := more) (b5 := b5) (b6 := b6) (b3 := b3) (mv := mv) HH.out HK.out HO.out hb h5 h6 h3 c5 c6 c3 HM.out HMV.out)
  generalize (L.filter fun k => !goneB 0 o.n more k) = L2 at *
  have n1 : sb ≠ w.heap.size := by omega
  have n2 : sb ≠ w.heap.size + 1 := by omega
  have n3 : sb ≠ w.heap.size + 2 := by omega
  have n4 : a ≠ w.heap.size := by omega
  have n5 : a ≠ w.heap.size + 1 := by omega
  have n6 : a ≠ w.heap.size + 2 := by omega
  have n7 : sb < w.heap.size + 1 := by omega
  have n8 : sb < w.heap.size + 1 + 1 := by omega
  have B3 := Lib.hid (((wb_alloc w (.cells #[.int .i64 nx, mv] 49)).alloc (by simp) (.cells #[.int .i64 o.n] 3)).alloc (by simp; omega) (.cells #[.int .i64 0] 3))
  clear h hk hm hmv hcell cf hll ho
  go_enter Tryd.func13, Tryd.ntmps13
  go_wp2_with fail
  go_quiet ((go_at_call 26; first | exact quiet_left (WL.out _) | exact quiet_add_left (WL.out _)))
  go_wp2_with fail
  refine (DEL.out _ (w.heap.size + 1) (w.heap.size + 1 + 1) w.heap.size ?_ ?_ ?_ ?_ ?_ ?_ ?_).mono ?_
  · exact below_drewN B3.out _
  · omega
  · omega
  · exact Nat.le_refl _
  · exact (take_cells _ _ _ _ _ _ _).1
  · exact (take_cells _ _ _ _ _ _ _).2.1
  · exact (take_cells _ _ _ _ _ _ _).2.2
  rintro e w2 ⟨v', rfl, O2, ob, ch⟩
  have HC := Lib.hid ch
  have HO2 := Lib.hid O2
  have HOB := Lib.hid ob
  obtain ⟨va, vc, rfl⟩ := owns_slice O2
  obtain ⟨e0, e1, e2, e3⟩ := snd_cs (take_cell HH.out (below_drewN B3.out _) HC.out)
  clear ch O2 ob
  go_wp2_with fail
  go_ret
  exact ⟨rfl, take_end HH.out (below_drewN B3.out _) HC.out HO2.out HOB.out⟩

set_option maxRecDepth 100000 in
set_option maxHeartbeats 6400000 in
theorem stake_no2 (base sb : Nat) (v mv : Value) (next nx : Int) (o : PK) (r : List PK) (more : List Int) (w : World) (h : SndAt w base sb v next (o :: r)) (hk : KOk (o :: r)) (hm : SliceIs w mv 1 (more.map (Value.int .i64)))
    (hmv : ∀ s n c b, mv = .slice (some s) n c → s.block = b → v.ownBlock ≠ some b) (hlen : (o :: r).length ≤ 1000000) (hw : wlB nx = true ∧ md (next - o.n) < md (nx - o.n)) :
    Calls Tryd.prog 13 #[.pointer (some ⟨sb, 0, none⟩), .agg #[.int .i64 nx, mv]] w fun e w' => e = .returned (.int .i64 (((o :: r).length : Int) - (sTake next (o :: r) nx more).length)) ∧ SndTo w w' base sb v next (sTake next (o :: r) nx more) := by
  rw [sTake_cons, farOf_no (by omega)]
  obtain ⟨⟨c0, c1⟩, cf⟩ := h.cs
  have f1 := cf 1
  obtain ⟨a, cap, hv, hab, has, _, _, hcell, _⟩ := owns_open h.own (by simp)
  subst hv
  have d0 := hcell 0 (.int .i64 o.n) (by rw [kcells_cons]; rfl)
  have ho := hk o (by simp)
  have hn := h.next
  have hw1 := md_sub (wlB_true hw.1) ho
  have hw2 := md_sub hn ho
  have WL := Lib.hid (fun w' => wwell_any nx w')
  rw [hw.1] at WL
  have WM := Lib.hid (fun w' => wmod_any (nx - o.n) w')
  have WN := Lib.hid (fun w' => wmod_any (next - o.n) w')
  have hle := hw.2
  clear hw
  have hsb := lt_of_block h.cells
  have hne := h.ne
  have h00 : 0 < (o :: r).length := by simp
  have HH := Lib.hid h
  have HK := Lib.hid hk
  have HM := Lib.hid hm
  have HMV := Lib.hid hmv
  have HO := Lib.hid ho
  generalize md (nx - o.n) = z at *
  generalize md (next - o.n) = y at *
  have hfl := filterK_len (fun k => !goneB 0 o.n more k) (o :: r)
  generalize hll : (o :: r) = L at *
  have DEL := Lib.hid (fun (W0 : World) (b5 b6 b3 : Nat) hb h5 h6 h3 c5 c6 c3 => take_del (W0 := W0) (far := 0) (oldest := o.n) (nx := nx) (more := more) (b5 := b5) (b6 := b6) (b3 := b3) (mv := mv) HH.out HK.out HO.out hb h5 h6 h3 c5 c6 c3 HM.out HMV.out)
  generalize (L.filter fun k => !goneB 0 o.n more k) = L2 at *
  have n1 : sb ≠ w.heap.size := by omega
  have n2 : sb ≠ w.heap.size + 1 := by omega
  have n3 : sb ≠ w.heap.size + 2 := by omega
  have n4 : a ≠ w.heap.size := by omega
  have n5 : a ≠ w.heap.size + 1 := by omega
  have n6 : a ≠ w.heap.size + 2 := by omega
  have n7 : sb < w.heap.size + 1 := by omega
  have n8 : sb < w.heap.size + 1 + 1 := by omega
  have B3 := Lib.hid (((wb_alloc w (.cells #[.int .i64 nx, mv] 49)).alloc (by simp) (.cells #[.int .i64 o.n] 3)).alloc (by simp; omega) (.cells #[.int .i64 0] 3))
  clear h hk hm hmv hcell cf hll ho
  go_enter Tryd.func13, Tryd.ntmps13
  go_wp2_with fail
  go_quiet ((first | (go_at_call 26; first | exact quiet_left (WL.out _) | exact quiet_add_left (WL.out _)) | (go_at_call 27; first | exact quiet_left (WM.out _) | exact quiet_add_left (WM.out _) | exact quiet_left (WN.out _) | exact quiet_add_left (WN.out _))))
  go_wp2_with fail
  refine (DEL.out _ (w.heap.size + 1) (w.heap.size + 1 + 1) w.heap.size ?_ ?_ ?_ ?_ ?_ ?_ ?_).mono ?_
  · exact below_drewN B3.out _
  · omega
  · omega
  · exact Nat.le_refl _
  · exact (take_cells _ _ _ _ _ _ _).1
  · exact (take_cells _ _ _ _ _ _ _).2.1
  · exact (take_cells _ _ _ _ _ _ _).2.2
  rintro e w2 ⟨v', rfl, O2, ob, ch⟩
  have HC := Lib.hid ch
  have HO2 := Lib.hid O2
  have HOB := Lib.hid ob
  obtain ⟨va, vc, rfl⟩ := owns_slice O2
  obtain ⟨e0, e1, e2, e3⟩ := snd_cs (take_cell HH.out (below_drewN B3.out _) HC.out)
  clear ch O2 ob
  go_wp2_with fail
  go_ret
  exact ⟨rfl, take_end HH.out (below_drewN B3.out _) HC.out HO2.out HOB.out⟩

theorem stake_any (base sb : Nat) (v mv : Value) (next nx : Int) (l : List PK) (more : List Int) (w : World) (h : SndAt w base sb v next l) (hk : KOk l) (hm : SliceIs w mv 1 (more.map (Value.int .i64)))
    (hmv : ∀ s n c b, mv = .slice (some s) n c → s.block = b → v.ownBlock ≠ some b) (hlen : l.length ≤ 1000000) :
    Calls Tryd.prog 13 #[.pointer (some ⟨sb, 0, none⟩), .agg #[.int .i64 nx, mv]] w fun e w' => e = .returned (.int .i64 ((l.length : Int) - (sTake next l nx more).length)) ∧ SndTo w w' base sb v next (sTake next l nx more) := by
  cases l with
  | nil => exact stake_nil base sb v mv next nx w h
  | cons o r =>
    by_cases h1 : wlB nx = true
    · by_cases h2 : md (nx - o.n) ≤ md (next - o.n)
      · exact stake_yes base sb v mv next nx o r more w h hk hm hmv hlen ⟨h1, h2⟩
      · exact stake_no2 base sb v mv next nx o r more w h hk hm hmv hlen ⟨h1, by omega⟩
    · exact stake_no1 base sb v mv next nx o r more w h hk hm hmv hlen (by simpa using h1)
end Go.Proofs.YtnjkopjbognpiaaDoor
