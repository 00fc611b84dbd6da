/- The document's PlanOf. -/
import Derived.Test.YtapdfgnfblkncaaGreatDoorRefAs
import Derived.Test.YtapdfgnfblkncaaGreatDoorFilPlan
import Derived.Test.YtapdfgnfblkncaaGreatDoorFilRead
namespace Go.Proofs.YtapdfgnfblkncaaGreatDoor
open Go.RowKit
set_option linter.unusedVariables false

theorem set2e {w : World} {b : Nat} {x y : Value} {t : TypeId} (h : w.heap[b]? = some (.cells #[x, y] t (0, 0))) (u v : Value) :
    ((w.setCell ⟨b, 0, none⟩ u).setCell ⟨b, 1, none⟩ v).drew.cell? ⟨b, 0, none⟩ = some u ∧ ((w.setCell ⟨b, 0, none⟩ u).setCell ⟨b, 1, none⟩ v).drew.cell? ⟨b, 1, none⟩ = some v := set2 h u v
theorem set2_heap {w : World} {b : Nat} {x y : Value} {t : TypeId} (h : w.heap[b]? = some (.cells #[x, y] t (0, 0))) (u v : Value) :
    ((w.setCell ⟨b, 0, none⟩ u).setCell ⟨b, 1, none⟩ v).heap[b]? = some (.cells #[u, v] t (0, 0)) := by
  have h1 := set_at (k := 0) (u := u) h
  have h2 := set_at (k := 1) (u := v) h1
  simpa using h2
theorem set2_away {w : World} {b g : Nat} {o : Obj} (h : w.heap[b]? = some o) (hb : b ≠ g) (u v : Value) : ((w.setCell ⟨g, 0, none⟩ u).setCell ⟨g, 1, none⟩ v).heap[b]? = some o := by
  have hl := lt_of_block h
  have g1 := grownBy_trans (grownBy_set w g 0 u) (grownBy_set (w.setCell ⟨g, 0, none⟩ u) g 1 v)
  exact (g1.block b hl (fun e => hb (Option.some.inj e))).trans h
theorem row_kept {w w' : World} {o : Obj} {b g m size : Nat} {e : TypeId} {v : Value} {xs : List Value} (ho : w.ownsRow (g + 1) e size v m xs) (hg : (w.alloc o).grownBy w' v.ownBlock) (hb : b ≤ g) (hs : b < w.heap.size) :
    w'.heap[b]? = w.heap[b]? := (hg.block b (by simp; omega) (fun e => by have := (ho.lt _ e.symm).1; omega)).trans (heap_alloc_old _ _ hs)
theorem row_below {w w0 w' : World} {o : Obj} {B g m size : Nat} {e : TypeId} {v : Value} {xs : List Value} (h : Below B w0 w) (ho : w.ownsRow (g + 1) e size v m xs) (hg : (w.alloc o).grownBy w' v.ownBlock) (hb : B ≤ g) (hs : B ≤ w.heap.size) : Below B w0 w' :=
  (h.alloc hs o).grown hg (by simp; omega) (fun j hj => by have := (ho.lt j hj).1; omega)
theorem run_lss {P : Program} (t : TypeId) (a b : List UInt8) (w : World) : (binOp .lss t (.string (bs a)) (.string (bs b))).run P w = .ok (.bool (ltL a b)) w := by
  simp only [binOp, Op.stringOp, bs_tl']
  rfl
theorem findM_spec (l : List PM) (n : List UInt8) : ∀ (k : Int), (findM l n k = -1 ∧ ∀ x ∈ l, x.n ≠ n) ∨ ∃ (j : Nat) (h : j < l.length), findM l n k = k + j ∧ (l[j]'h).n = n := by
  induction l with
  | nil => intro k; exact .inl ⟨rfl, by simp⟩
  | cons x l ih =>
    intro k
    unfold findM
    by_cases h : x.n = n
    · rw [if_pos h]; exact .inr ⟨0, by simp, by simp, h⟩
    · rw [if_neg h]
      rcases ih (k + 1) with ⟨h1, h2⟩ | ⟨j, hj, h1, h2⟩
      · refine .inl ⟨h1, fun y hy => ?_⟩
        rcases List.mem_cons.1 hy with rfl | hy
        · exact h
        · exact h2 y hy
      · exact .inr ⟨j + 1, by simp; omega, by rw [h1]; push_cast; omega, by simpa using h2⟩
theorem infoMS : (Tryz.prog.info? 50).map (fun i => (i.zero, i.size, i.bytes)) = some (some (.agg #[.string ⟨#[]⟩, .string ⟨#[]⟩]), 2, 32) := by kernel_rfl
theorem slice_oneM {w : World} {b : Nat} {x y : Value} (h : w.heap[b]? = some (.cells #[x, y] 50 (0, 0))) : SliceIs w (.slice (some ⟨b, 0, none⟩) 1 1) 2 [x, y] :=
  .inr ⟨_, 1, 1, rfl, Nat.le_refl _, by unfold maxLen; omega, rfl, fun j u' hj => by
    match j, hj with
    | 0, hj => simp at hj; subst hj; simp [World.cell?, h, Addr.add]
    | 1, hj => simp at hj; subst hj; simp [World.cell?, h, Addr.add]⟩
/-- of two lists the first fault -/
def planF2 (A B : List PL) : Nat × Int := if (lnFault A).1 ≠ 0 then lnFault A else lnFault B
theorem planF2_a {A B : List PL} (h : (lnFault A).1 ≠ 0) : planF2 A B = lnFault A := by unfold planF2; rw [if_pos h]
theorem planF2_b {A B : List PL} (h : (lnFault A).1 = 0) : planF2 A B = lnFault B := by unfold planF2; rw [if_neg (by simp [h])]

set_option maxRecDepth 100000 in
set_option maxHeartbeats 6400000 in
theorem planOf_bad (a b : List PM) (v1 v2 : Value) (w : World) (h1 : SliceIs w v1 3 (mcells a)) (h2 : SliceIs w v2 3 (mcells b)) (n1 : ∀ x ∈ a, x.n.length ≤ 1000000000) (n2 : ∀ x ∈ b, x.n.length ≤ 1000000000) (hf : (planF2 (a.map PM.pl) (b.map PM.pl)).1 ≠ 0) :
    Calls Tryz.prog 16 #[v1, v2] w fun e w' => e = .returned (.tuple #[.slice none 0 0, rfv (planF2 (a.map PM.pl) (b.map PM.pl))]) ∧ Below w.heap.size w w' := by
  have HB0 := Lib.hid (below_one w (.cells #[.int .i64 0, .int .i64 0] 26))
  have FA := linesFault_any a v1 _ (h1.below HB0.out) n1
  have FB := fun (w' : World) (bl : Below w.heap.size w w') => linesFault_any b v2 w' (h2.below bl) n2
  simp only [rfv_is] at FA FB
  have HA := Lib.hid FA
  have HB := Lib.hid FB
  have hz0 := heap_alloc_new w (.cells #[.int .i64 0, .int .i64 0] 26)
  have HZ0 := Lib.hid hz0
  rw [rfv_is]
  clear FA FB h1 h2 n1 n2 hz0
  by_cases hA : (lnFault (a.map PM.pl)).1 = 0
  · rw [planF2_b hA] at hf ⊢
    generalize lnFault (b.map PM.pl) = q at *
    have hq : (0 : Int) < q.1 := by omega
    generalize lnFault (a.map PM.pl) = z at *
    obtain ⟨zc, za⟩ := z
    simp only [] at hA HA
    subst hA
    go_enter Tryz.func16, Tryz.ntmps16
    go_wp2_with fail
    refine HA.out.mono ?_
    rintro e w1 ⟨rfl, b1⟩
    have hz1 := (b1.block w.heap.size (by simp)).trans HZ0.out
    have hlt1 : w.heap.size < w1.heap.size := lt_of_block hz1
    have bb1 := below_trans' HB0.out b1
    clear b1 HA HB0
    go_wp2_with fail
    have hy := heap_alloc_new w1 (.cells #[.int .i64 0, .int .i64 za] 26)
    have hx := (heap_alloc_old w1 (.cells #[.int .i64 0, .int .i64 za] 26) hlt1).trans hz1
    have bb2 := bb1.alloc bb1.size (.cells #[.int .i64 0, .int .i64 za] 26)
    have hne : w.heap.size ≠ w1.heap.size := by omega
    have hge : w.heap.size ≤ w1.heap.size := by omega
    clear hz1 bb1 hlt1
    generalize w1.alloc (.cells #[.int .i64 0, .int .i64 za] 26) = w2 at *
    generalize w1.heap.size = g at *
    refine (HB.out _ bb2).mono ?_
    rintro e w3 ⟨rfl, b3⟩
    have hx3 := (b3.block w.heap.size (lt_of_block hx)).trans hx
    have hy3 := (b3.block g (lt_of_block hy)).trans hy
    have bb3 := below_trans' bb2 b3
    have f0 : w3.frozen? ⟨g, 0, none⟩ = false := by simp [World.frozen?, hy3]
    have f1 : w3.frozen? ⟨g, 1, none⟩ = false := by simp [World.frozen?, hy3]
    have e0 : w3.cell? ⟨g, 0, none⟩ = some (.int .i64 0) := by simp [World.cell?, hy3]
    have e1 : w3.cell? ⟨g, 1, none⟩ = some (.int .i64 za) := by simp [World.cell?, hy3]
    have hy4 := set2_heap hy3 (.int .i64 q.1) (.int .i64 q.2)
    have hx4 := set2_away (g := g) hx3 hne (.int .i64 q.1) (.int .i64 q.2)
    have bb4 := (bb3.setCell (p := ⟨g, 0, none⟩) hge (.int .i64 q.1)).setCell (p := ⟨g, 1, none⟩) hge (.int .i64 q.2)
    obtain ⟨s0, s1⟩ := set2 hy3 (.int .i64 q.1) (.int .i64 q.2)
    clear b3 hx hy bb2 hx3 hy3 bb3 HB
    go_wp2_with fail
    generalize (w3.setCell ⟨g, 0, none⟩ (.int .i64 q.1)).setCell ⟨g, 1, none⟩ (.int .i64 q.2) = w4 at *
    clear f0 f1 e0 e1
    have f0 : w4.frozen? ⟨w.heap.size, 0, none⟩ = false := by simp [World.frozen?, hx4]
    have f1 : w4.frozen? ⟨w.heap.size, 1, none⟩ = false := by simp [World.frozen?, hx4]
    have e0 : w4.cell? ⟨w.heap.size, 0, none⟩ = some (.int .i64 0) := by simp [World.cell?, hx4]
    have e1 : w4.cell? ⟨w.heap.size, 1, none⟩ = some (.int .i64 0) := by simp [World.cell?, hx4]
    obtain ⟨r0, r1⟩ := set2e hx4 (.int .i64 q.1) (.int .i64 q.2)
    have bb := ((bb4.setCell (p := ⟨w.heap.size, 0, none⟩) (Nat.le_refl _) (.int .i64 q.1)).setCell (p := ⟨w.heap.size, 1, none⟩) (Nat.le_refl _) (.int .i64 q.2))
    clear hx4 hy4 bb4
    go_region_law (fail)
    all_goals
      go_wp2_with fail
      refine bodyPost_ret (by simp [results, Tryz.results16, go_sem, r0, r1]; try rfl) rfl ?_
      exact ⟨rfl, below_drewN bb 1⟩
  · rw [planF2_a hA]
    generalize lnFault (a.map PM.pl) = q at *
    have hq : (0 : Int) < q.1 := by omega
    have hq1 : ((q.1 : Int) == 0) = false := by rw [beq_eq_false_iff_ne]; omega
    clear hf hA HB
    go_enter Tryz.func16, Tryz.ntmps16
    go_wp2_with fail
    refine HA.out.mono ?_
    rintro e w1 ⟨rfl, b1⟩
    have hz1 := (b1.block w.heap.size (by simp)).trans HZ0.out
    have hlt1 : w.heap.size < w1.heap.size := lt_of_block hz1
    have bb1 := below_trans' HB0.out b1
    clear b1 HA HB0
    go_wp2_with fail
    have hy := heap_alloc_new w1 (.cells #[.int .i64 q.1, .int .i64 q.2] 26)
    have hx := (heap_alloc_old w1 (.cells #[.int .i64 q.1, .int .i64 q.2] 26) hlt1).trans hz1
    have bb2 := bb1.alloc bb1.size (.cells #[.int .i64 q.1, .int .i64 q.2] 26)
    clear hz1 bb1
    generalize w1.alloc (.cells #[.int .i64 q.1, .int .i64 q.2] 26) = w2 at *
    generalize w1.heap.size = g at *
    have f0 : w2.frozen? ⟨w.heap.size, 0, none⟩ = false := by simp [World.frozen?, hx]
    have f1 : w2.frozen? ⟨w.heap.size, 1, none⟩ = false := by simp [World.frozen?, hx]
    have e0 : w2.cell? ⟨w.heap.size, 0, none⟩ = some (.int .i64 0) := by simp [World.cell?, hx]
    have e1 : w2.cell? ⟨w.heap.size, 1, none⟩ = some (.int .i64 0) := by simp [World.cell?, hx]
    have c0 : w2.cell? ⟨g, 0, none⟩ = some (.int .i64 q.1) := by simp [World.cell?, hy]
    have c1 : w2.cell? ⟨g, 1, none⟩ = some (.int .i64 q.2) := by simp [World.cell?, hy]
    obtain ⟨r0, r1⟩ := set2e hx (.int .i64 q.1) (.int .i64 q.2)
    have bb := ((bb2.setCell (p := ⟨w.heap.size, 0, none⟩) (Nat.le_refl _) (.int .i64 q.1)).setCell (p := ⟨w.heap.size, 1, none⟩) (Nat.le_refl _) (.int .i64 q.2))
    clear hx hy bb2
    go_region_law (fail)
    all_goals
      go_wp2_with fail
      refine bodyPost_ret (by simp [results, Tryz.results16, go_sem, r0, r1]; try rfl) rfl ?_
      exact ⟨rfl, below_drewN bb 1⟩
end Go.Proofs.YtapdfgnfblkncaaGreatDoor
/- The document's PlanOf, where the lists are well. -/
namespace Go.Proofs.YtapdfgnfblkncaaGreatDoor
open Go.RowKit
set_option linter.unusedVariables false

theorem drop_nilM {l : List PL} {k : Nat} (h : l.length ≤ k) : l.drop k = [] := List.drop_of_length_le h
theorem pl_inj {x y : PM} (hx : x.ok32) (hy : y.ok32) (h : x.pl = y.pl) : x = y := by
  obtain ⟨n, N, S⟩ := x
  obtain ⟨n', N', S'⟩ := y
  simp only [PM.pl, PM.ok32] at *
  injection h with e1 e2 e3
  have : S = S' := by omega
  rw [e1, e2, this]
/-- what kind a line is, by the place that find tells -/
theorem kind_none {b : List PM} {x : PM} (h : ∀ y ∈ b, y.n ≠ x.n) : kindD (b.map PM.pl) x.pl = ⟨kSend, x.n⟩ := by
  unfold kindD
  rw [if_neg fun hm => by
    obtain ⟨y, hy, e⟩ := List.mem_map.1 hm
    exact h y hy (congrArg PL.n e)]
  rfl
theorem kind_some {b : List PM} {x : PM} (hb : LWF (b.map PM.pl)) (h32 : ∀ y ∈ b, y.ok32) (hx : x.ok32) {j : Nat} (hj : j < b.length) (e : (b[j]'hj).n = x.n) :
    kindD (b.map PM.pl) x.pl = if (b[j]'hj).N = x.N ∧ (b[j]'hj).S = x.S then ⟨kKeep, x.n⟩ else ⟨kSend, x.n⟩ := by
  have hm : (b[j]'hj) ∈ b := List.getElem_mem hj
  unfold kindD
  by_cases h : (b[j]'hj).N = x.N ∧ (b[j]'hj).S = x.S
  · have hxy : (b[j]'hj) = x := by
      cases hbj : (b[j]'hj); cases x
      rw [hbj] at h e
      simp only [] at h e
      rw [e, h.1, h.2]
    rw [if_pos h, if_pos (List.mem_map.2 ⟨_, hm, by rw [hxy]⟩)]; rfl
  · rw [if_neg h, if_neg fun hmm => ?_]
    · rfl
    · obtain ⟨y, hy, ey⟩ := List.mem_map.1 hmm
      have hs : Srt (b.map PM.pl) := hb.sorted
      have hyn : y.n = x.n := congrArg PL.n ey
      have hyx := pl_inj (h32 y hy) hx ey
      have h1 : ((b[j]'hj)).pl ∈ b.map PM.pl := List.mem_map.2 ⟨_, hm, rfl⟩
      have h2 : y.pl ∈ b.map PM.pl := List.mem_map.2 ⟨_, hy, rfl⟩
      have : (b[j]'hj).pl = y.pl := by
        rcases List.mem_iff_getElem.1 h1 with ⟨p, hp, ep⟩
        rcases List.mem_iff_getElem.1 h2 with ⟨q, hq, eq⟩
        rcases Nat.lt_trichotomy p q with c | c | c
        · have := List.pairwise_iff_getElem.1 hs p q hp hq c
          rw [ep, eq] at this
          exact absurd (show (b[j]'hj).n = y.n by rw [e, hyn]) (ltL_ne this)
        · subst c; rw [← ep, ← eq]
        · have := List.pairwise_iff_getElem.1 hs q p hq hp c
          rw [ep, eq] at this
          exact absurd (show y.n = (b[j]'hj).n by rw [e, hyn]) (ltL_ne this)
      have := pl_inj (h32 _ hm) (h32 y hy) this
      rw [this, hyx] at h
      exact h ⟨rfl, rfl⟩

theorem m_cells {w : World} {ad : Addr} {n c : Nat} {l : List PM} (h : SliceIs w (.slice (some ad) n c) 3 (mcells l)) {k : Nat} (hk : k < l.length) :
    w.cell? (ad.add (k * 3)) = some (.string (bs (l[k]'hk).n)) ∧ w.cell? ⟨(ad.add (k * 3)).block, (ad.add (k * 3)).off + 1, none⟩ = some (.int .i64 (l[k]'hk).N) ∧ w.cell? ⟨(ad.add (k * 3)).block, (ad.add (k * 3)).off + 2, none⟩ = some (.int .i64 (l[k]'hk).S) := by
  obtain ⟨s', n', c', e, _, _, _, hg⟩ := h.get
  cases e
  obtain ⟨x0, x1, x2⟩ := mcells_get l k hk
  obtain ⟨a, e, d0⟩ := hg _ _ x0
  cases e
  obtain ⟨a, e, d1⟩ := hg _ _ x1
  cases e
  obtain ⟨a, e, d2⟩ := hg _ _ x2
  cases e
  exact ⟨d0, cell_at d1, cell_at d2⟩
set_option maxRecDepth 100000 in
set_option maxHeartbeats 12800000 in
theorem planOf_ok (a b : List PM) (v1 v2 : Value) (w : World) (h1 : SliceIs w v1 3 (mcells a)) (h2 : SliceIs w v2 3 (mcells b)) (s1 : ∀ x ∈ a, x.ok32) (s2 : ∀ x ∈ b, x.ok32) (ha : LWF (a.map PM.pl)) (hb : LWF (b.map PM.pl)) :
    Calls Tryz.prog 16 #[v1, v2] w fun e w' => ∃ r, e = .returned (.tuple #[r, rfv (0, -1)]) ∧ w'.ownsRow w.heap.size 50 2 r (planL (a.map PM.pl) (b.map PM.pl)).length (scells (planL (a.map PM.pl) (b.map PM.pl))) ∧ Below w.heap.size w w' := by
  have HB0 := Lib.hid (below_one w (.cells #[.int .i64 0, .int .i64 0] 26))
  have hna : ∀ x ∈ a, x.n.length ≤ 1000000000 := fun x hx => by have := ((nameB_iff _).1 (ha.each x.pl (List.mem_map.2 ⟨x, hx, rfl⟩)).1).2.1; show x.n.length ≤ _; have h : x.pl.n = x.n := rfl; rw [h] at this; omega
  have hnb : ∀ x ∈ b, x.n.length ≤ 1000000000 := fun x hx => by have := ((nameB_iff _).1 (hb.each x.pl (List.mem_map.2 ⟨x, hx, rfl⟩)).1).2.1; have h : x.pl.n = x.n := rfl; rw [h] at this; omega
  have FA := linesFault_any a v1 _ (h1.below HB0.out) hna
  have FB := fun (w' : World) (bl : Below w.heap.size w w') => linesFault_any b v2 w' (h2.below bl) hnb
  rw [lnFault_zero ((lnFault_wf _).2 ha)] at FA
  rw [lnFault_zero ((lnFault_wf _).2 hb)] at FB
  simp only [rfv_is] at FA FB
  have HA := Lib.hid FA
  have HB := Lib.hid FB
  have HZ0 := Lib.hid (heap_alloc_new w (.cells #[.int .i64 0, .int .i64 0] 26))
  have hla := ha.few
  have hlb := hb.few
  rw [List.length_map] at hla hlb
  have TOT := Lib.hid (planD_is (A := a.map PM.pl) (T := b.map PM.pl) ha.sorted hb.sorted)
  have HPL := Lib.hid (planL_le (a.map PM.pl) (b.map PM.pl))
  have hpl := HPL.out
  rw [List.length_map, List.length_map] at hpl
  have KN := Lib.hid (fun x h => kind_none (b := b) (x := x) h)
  have KS := Lib.hid (fun x (hx : x ∈ a) j hj e => kind_some hb s2 (s1 x hx) (j := j) hj e)
  have HS1 := Lib.hid h1
  have HS2 := Lib.hid h2
  obtain ⟨sa, na, ca, rfl, qa, qb, qc, qd⟩ := h1.get
  obtain ⟨sb, nb, cb, rfl, qe, qf, qg, qh⟩ := h2.get
  rw [mcells_len] at qa qe
  obtain rfl : na = a.length := by omega
  obtain rfl : nb = b.length := by omega
  unfold maxLen at qc qg
  obtain ⟨i0, hi, hz0, hz1, hz2⟩ := info_parts infoMS
  have FR := Lib.hid (fun (n : List UInt8) (w' : World) (bl : Below w.heap.size w w') => find_ref a _ n w' (HS1.out.below bl))
  have FT := Lib.hid (fun (n : List UInt8) (w' : World) (bl : Below w.heap.size w w') => find_ref b _ n w' (HS2.out.below bl))
  rw [rfv_is]
  generalize planL (a.map PM.pl) (b.map PM.pl) = P at *
  clear FA FB h1 h2 hna hnb ha hb s1 s2 qa qb qd qe qf qh HPL
  go_enter Tryz.func16, Tryz.ntmps16
  go_wp2_with fail
  refine HA.out.mono ?_
  rintro e w1 ⟨rfl, b1⟩
  have hz1' := (b1.block w.heap.size (by simp)).trans HZ0.out
  have hlt1 : w.heap.size < w1.heap.size := lt_of_block hz1'
  have bb1 := below_trans' HB0.out b1
  clear b1 HA HB0
  go_wp2_with fail
  have hy := heap_alloc_new w1 (.cells #[.int .i64 0, .int .i64 (-1)] 26)
  have hx := (heap_alloc_old w1 (.cells #[.int .i64 0, .int .i64 (-1)] 26) hlt1).trans hz1'
  have bb2 := bb1.alloc bb1.size (.cells #[.int .i64 0, .int .i64 (-1)] 26)
  have hne : w.heap.size ≠ w1.heap.size := by omega
  have hge : w.heap.size ≤ w1.heap.size := by omega
  clear hz1' bb1
  generalize w1.alloc (.cells #[.int .i64 0, .int .i64 (-1)] 26) = w2 at *
  generalize w1.heap.size = g at *
  refine (HB.out _ bb2).mono ?_
  rintro e w3 ⟨rfl, b3⟩
  have hx3 := (b3.block w.heap.size (lt_of_block hx)).trans hx
  have hy3 := (b3.block g (lt_of_block hy)).trans hy
  have bb3 := below_trans' bb2 b3
  have f0 : w3.frozen? ⟨g, 0, none⟩ = false := by simp [World.frozen?, hy3]
  have f1 : w3.frozen? ⟨g, 1, none⟩ = false := by simp [World.frozen?, hy3]
  have e0 : w3.cell? ⟨g, 0, none⟩ = some (.int .i64 0) := by simp [World.cell?, hy3]
  have e1 : w3.cell? ⟨g, 1, none⟩ = some (.int .i64 (-1)) := by simp [World.cell?, hy3]
  have hx4 := set2_away (g := g) hx3 hne (.int .i64 0) (.int .i64 (-1))
  have bb4 := (bb3.setCell (p := ⟨g, 0, none⟩) hge (.int .i64 0)).setCell (p := ⟨g, 1, none⟩) hge (.int .i64 (-1))
  have hg4 : g + 1 ≤ ((w3.setCell ⟨g, 0, none⟩ (.int .i64 0)).setCell ⟨g, 1, none⟩ (.int .i64 (-1))).heap.size := by have := lt_of_block hy3; simp; omega
  obtain ⟨s0, s1⟩ := set2 hy3 (.int .i64 0) (.int .i64 (-1))
  clear b3 hx hy bb2 hx3 hy3 bb3 HB
  go_wp2_with fail
  generalize (w3.setCell ⟨g, 0, none⟩ (.int .i64 0)).setCell ⟨g, 1, none⟩ (.int .i64 (-1)) = w4 at *
  clear f0 f1 e0 e1 s0 s1
  have HG := Lib.hid (show w.heap.size ≤ g from hge)
  go_loopw [9, 8, 7, 10, 11] (fun i k o _ _ wr => ∃ (m j : Nat) (D : List PS), i = .int .i64 m ∧ m ≤ a.length ∧ k = .int .i64 j ∧ j ≤ b.length ∧ D ++ planD (a.map PM.pl) (b.map PM.pl) ((a.map PM.pl).drop m) ((b.map PM.pl).drop j) = P ∧ wr.ownsRow (g + 1) 50 2 o D.length (scells D) ∧ wr.heap[w.heap.size]? = some (.cells #[.int .i64 0, .int .i64 0] 26 (0, 0)) ∧ Below w.heap.size w wr ∧ g + 1 ≤ wr.heap.size) (fun i _ _ _ _ _ => a.length + 1 - (intOf i).toNat)
  case atStart => exact ⟨0, 0, [], rfl, by omega, rfl, by omega, TOT.out, by rw [scells_nil]; exact World.ownsRow_nil _ _ _ _, hx4, bb4, hg4⟩
  case round =>
    clear bb4 hx4
    obtain ⟨m, j, D, rfl, hm, rfl, hj, hinv, hown, hz, bel, hszr⟩ := hrel
    have hmI : (m : Int) ≤ a.length := by omega
    have MM := Lib.hid hm
    have hsz : g + 1 ≤ wr.heap.size := hszr
    go_wp2_with fail
    go_loopw [8, 7] (fun kk oo wi => ∃ (j : Nat) (D : List PS), kk = .int .i64 j ∧ j ≤ b.length ∧ D ++ planD (a.map PM.pl) (b.map PM.pl) ((a.map PM.pl).drop m) ((b.map PM.pl).drop j) = P ∧ wi.ownsRow (g + 1) 50 2 oo D.length (scells D) ∧ wi.heap[w.heap.size]? = some (.cells #[.int .i64 0, .int .i64 0] 26 (0, 0)) ∧ Below w.heap.size w wi ∧ g + 1 ≤ wi.heap.size) (fun kk _ _ => b.length - (intOf kk).toNat)
    case atStart => exact ⟨j, D, rfl, hj, hinv, hown, hz, bel, hsz⟩
    case round =>
      clear hinv hown hz bel hj hsz
      obtain ⟨j, D, rfl, hj, hinv, hown, hz, bel, hsz⟩ := hrel
      have HI := Lib.hid hinv
      have HO' := Lib.hid hown
      have HZ := Lib.hid hz
      have BW := Lib.hid bel
      have HSZ := Lib.hid hsz
      obtain ⟨va, vc, rfl⟩ := owns_slice hown
      have HO := Lib.hid hown
      have hDl : D.length ≤ P.length := by have := congrArg List.length hinv; rw [List.length_append] at this; omega
      have HN1 : Hid (D.length + 1 ≤ maxLen) := by show _ ≤ _; unfold maxLen; omega
      have HN2 : Hid ((D.length + 1) * 32 ≤ 140737488355328) := by show _ ≤ _; omega
      clear HO' hinv hown hz bel hDl hsz
      have z1 : (0 : Int) ≤ j := by omega
      have z2 : (j : Int).toNat = j := by omega
      by_cases hjl : j < b.length
      · have hjI : (j : Int) < b.length := by omega
        have hlss : ∀ w, (binOp .lss 3 (.int .i64 (j : Int)) (.int .i64 (b.length : Int))).run Tryz.prog w = .ok (.bool true) w := fun w => (show (binOp .lss 3 (.int .i64 (j : Int)) (.int .i64 (b.length : Int))).run Tryz.prog w = .ok (.bool (decide ((j : Int) < b.length))) w from rfl).trans (by rw [decide_eq_true hjI])
        have JJ := Lib.hid (show j + 1 ≤ b.length from hjl)
        obtain ⟨s', n', c', q, _, _, _, g1⟩ := (HS2.out.below BW.out).get
        cases q
        obtain ⟨ad, rfl, dx⟩ := g1 _ _ (mcells_get b j hjl).1
        clear dx g1
        have hBm : j < (b.map PM.pl).length := by rw [List.length_map]; exact hjl
        have hBd : (b.map PM.pl).drop j = (b[j]'hjl).pl :: (b.map PM.pl).drop (j + 1) := by rw [List.drop_eq_getElem_cons hBm, List.getElem_map]
        obtain ⟨yd0, _, _⟩ := m_cells (HS2.out.below BW.out) hjl
        by_cases hma : m = a.length
        · subst hma
          have hmb : ((a.length : Int) == a.length) = true := by rw [beq_iff_eq]
          have hieq : ∀ w, (binOp .eql 3 (.int .i64 (a.length : Int)) (.int .i64 (a.length : Int))).run Tryz.prog w = .ok (.bool true) w := fun w => (show (binOp .eql 3 (.int .i64 (a.length : Int)) (.int .i64 (a.length : Int))).run Tryz.prog w = .ok (.bool ((a.length : Int) == a.length)) w from rfl).trans (by rw [hmb])
          have NXT := Lib.hid (show D ++ (dropsD (a.map PM.pl) [(b[j]'hjl).pl] ++ planD (a.map PM.pl) (b.map PM.pl) ((a.map PM.pl).drop a.length) ((b.map PM.pl).drop (j + 1))) = P by
            have h := HI.out
            have e : (a.map PM.pl).drop a.length = [] := drop_nilM (by rw [List.length_map]; omega)
            rw [e, hBd, planD_rest] at h
            rw [e]; exact h)
          generalize hy : b[j]'hjl = y at yd0 NXT
          have HY := Lib.hid hy
          clear hy hBd HI
          go_wp2_with fail
          go_quiet (fail)
          go_wp2_with fail
          refine (FR.out y.n _ (below_drewN BW.out _)).mono ?_
          rintro e wq ⟨rfl, hwq⟩
          have BQ := Lib.hid (show Below w.heap.size w wq by rw [hwq]; first | exact BW.out | exact below_drewN BW.out _)
          have OQ := Lib.hid (show wq.ownsRow (g + 1) 50 2 (.slice va D.length vc) D.length (scells D) by rw [hwq]; exact HO.out)
          have ZQ := Lib.hid (show wq.heap[w.heap.size]? = some (.cells #[.int .i64 0, .int .i64 0] 26 (0, 0)) by rw [hwq]; exact HZ.out)
          have HSQ := Lib.hid (show g + 1 ≤ wq.heap.size by rw [hwq]; exact HSZ.out)
          clear hwq
          obtain ⟨e0, _⟩ := m_cells (HS2.out.below BQ.out) hjl
          rw [HY.out] at e0
          rcases findM_spec a y.n 0 with ⟨h1, h2⟩ | ⟨jj, hjj, h1, h2⟩
          · rw [h1]
            have Y := Lib.hid (show (D ++ [⟨kDrop, y.n⟩]) ++ planD (a.map PM.pl) (b.map PM.pl) ((a.map PM.pl).drop a.length) ((b.map PM.pl).drop (j + 1)) = P by
              have h := NXT.out
              rw [dropsD_out (fun x hx => by obtain ⟨z, hz, rfl⟩ := List.mem_map.1 hx; exact h2 z hz)] at h
              rw [List.append_assoc]; exact h)
            clear h1 h2 NXT
            go_wp2_with (at_builtin; refine wpList_append_is rfl (.tmp 60) (.tmp 67) 45 rfl (g + 1) 50 i0 _ 2 32 Tryz.underlying45 hi hz0 hz1 hz2 rfl (by decide) _ D.length _ rfl (OQ.out.alloc _) _ 1 [.string ⟨#[100, 114, 111, 112]⟩, .string (bs y.n)] rfl (slice_oneM (heap_alloc_new _ _)) rfl (fun u hu => by simp at hu; rcases hu with rfl | rfl <;> rfl) HN1.out HN2.out (by have := HSQ.out; simp; omega) ?_; intro v' w5 hown5 hgrow _; have HO5 := Lib.hid hown5; have B5 := Lib.hid (row_below BQ.out OQ.out hgrow HG.out BQ.out.size); have Z5 := Lib.hid ((row_kept OQ.out hgrow HG.out (lt_of_block ZQ.out)).trans ZQ.out); have S5 := Lib.hid (show g + 1 ≤ w5.heap.size by have h1 := hgrow.size; have h2 := HSQ.out; simp at h1; omega); clear hown5 hgrow)
            go_roundw
            case rel => exact ⟨j + 1, D ++ [⟨kDrop, y.n⟩], by go_num, JJ.out, Y.out, by rw [scells_append, scells_one, bs_kDrop, List.length_append]; exact HO5.out, Z5.out, B5.out, S5.out⟩
            case measure => simp [intOf]; omega
          · rw [h1, Int.zero_add]
            have hjn : ¬ ((jj : Int) < 0) := by omega
            have Y := Lib.hid (show D ++ planD (a.map PM.pl) (b.map PM.pl) ((a.map PM.pl).drop a.length) ((b.map PM.pl).drop (j + 1)) = P by
              have h := NXT.out
              rw [dropsD_in ⟨(a[jj]'hjj).pl, List.mem_map.2 ⟨_, List.getElem_mem hjj, rfl⟩, (show (a[jj]'hjj).pl.n = y.pl.n from h2)⟩] at h
              exact h)
            clear h1 h2 NXT
            go_wp2_with fail
            go_roundw
            case rel => exact ⟨j + 1, D, by go_num, JJ.out, Y.out, OQ.out, ZQ.out, BQ.out, HSQ.out⟩
            case measure => simp [intOf]; omega
        · have hml : m < a.length := by omega
          have hmlI : (m : Int) < a.length := by omega
          have y1 : (0 : Int) ≤ m := by omega
          have y2 : (m : Int).toNat = m := by omega
          have hmb : ((m : Int) == a.length) = false := by rw [beq_eq_false_iff_ne]; omega
          have hieq : ∀ w, (binOp .eql 3 (.int .i64 (m : Int)) (.int .i64 (a.length : Int))).run Tryz.prog w = .ok (.bool false) w := fun w => (show (binOp .eql 3 (.int .i64 (m : Int)) (.int .i64 (a.length : Int))).run Tryz.prog w = .ok (.bool ((m : Int) == a.length)) w from rfl).trans (by rw [hmb])
          have M1 := Lib.hid (show m + 1 ≤ a.length from hml)
          obtain ⟨s', n', c', q, _, _, _, g1⟩ := (HS1.out.below BW.out).get
          cases q
          obtain ⟨ax, rfl, dx⟩ := g1 _ _ (mcells_get a m hml).1
          clear dx g1
          have hAm : m < (a.map PM.pl).length := by rw [List.length_map]; exact hml
          have hAd : (a.map PM.pl).drop m = (a[m]'hml).pl :: (a.map PM.pl).drop (m + 1) := by rw [List.drop_eq_getElem_cons hAm, List.getElem_map]
          obtain ⟨xd0, xd1, xd2⟩ := m_cells (HS1.out.below BW.out) hml
          generalize hy : b[j]'hjl = y at yd0 hBd
          generalize hx : a[m]'hml = x at xd0 xd1 xd2 hAd
          have HY := Lib.hid hy
          have HX := Lib.hid hx
          cases hlt : ltL y.n x.n with
          | true =>
            have hsl : ∀ w, (binOp .lss 9 (.string (bs y.n)) (.string (bs x.n))).run Tryz.prog w = .ok (.bool true) w := fun w => by rw [run_lss, hlt]
            have hsb : Op.bytesLess (bs y.n).toList (bs x.n).toList = true := by rw [bs_tl', bs_tl']; exact hlt
            have NXT := Lib.hid (show D ++ (dropsD (a.map PM.pl) [y.pl] ++ planD (a.map PM.pl) (b.map PM.pl) ((a.map PM.pl).drop m) ((b.map PM.pl).drop (j + 1))) = P by
              have h := HI.out
              rw [hAd, hBd, planD_lt _ _ _ _ hlt, ← hAd] at h
              exact h)
            clear hx hy hAd hBd HI hlt
            go_wp2_with fail
            go_quiet (fail)
            go_wp2_with fail
            refine (FR.out y.n _ (below_drewN BW.out _)).mono ?_
            rintro e wq ⟨rfl, hwq⟩
            have BQ := Lib.hid (show Below w.heap.size w wq by rw [hwq]; first | exact BW.out | exact below_drewN BW.out _)
            have OQ := Lib.hid (show wq.ownsRow (g + 1) 50 2 (.slice va D.length vc) D.length (scells D) by rw [hwq]; exact HO.out)
            have ZQ := Lib.hid (show wq.heap[w.heap.size]? = some (.cells #[.int .i64 0, .int .i64 0] 26 (0, 0)) by rw [hwq]; exact HZ.out)
            have HSQ := Lib.hid (show g + 1 ≤ wq.heap.size by rw [hwq]; exact HSZ.out)
            clear hwq
            obtain ⟨e0, _⟩ := m_cells (HS2.out.below BQ.out) hjl
            rw [HY.out] at e0
            rcases findM_spec a y.n 0 with ⟨h1, h2⟩ | ⟨jj, hjj, h1, h2⟩
            · rw [h1]
              have Y := Lib.hid (show (D ++ [⟨kDrop, y.n⟩]) ++ planD (a.map PM.pl) (b.map PM.pl) ((a.map PM.pl).drop m) ((b.map PM.pl).drop (j + 1)) = P by
                have h := NXT.out
                rw [dropsD_out (fun x hx => by obtain ⟨z, hz, rfl⟩ := List.mem_map.1 hx; exact h2 z hz)] at h
                rw [List.append_assoc]; exact h)
              clear h1 h2 NXT
              go_wp2_with (at_builtin; refine wpList_append_is rfl (.tmp 60) (.tmp 67) 45 rfl (g + 1) 50 i0 _ 2 32 Tryz.underlying45 hi hz0 hz1 hz2 rfl (by decide) _ D.length _ rfl (OQ.out.alloc _) _ 1 [.string ⟨#[100, 114, 111, 112]⟩, .string (bs y.n)] rfl (slice_oneM (heap_alloc_new _ _)) rfl (fun u hu => by simp at hu; rcases hu with rfl | rfl <;> rfl) HN1.out HN2.out (by have := HSQ.out; simp; omega) ?_; intro v' w5 hown5 hgrow _; have HO5 := Lib.hid hown5; have B5 := Lib.hid (row_below BQ.out OQ.out hgrow HG.out BQ.out.size); have Z5 := Lib.hid ((row_kept OQ.out hgrow HG.out (lt_of_block ZQ.out)).trans ZQ.out); have S5 := Lib.hid (show g + 1 ≤ w5.heap.size by have h1 := hgrow.size; have h2 := HSQ.out; simp at h1; omega); clear hown5 hgrow)
              go_roundw
              case rel => exact ⟨j + 1, D ++ [⟨kDrop, y.n⟩], by go_num, JJ.out, Y.out, by rw [scells_append, scells_one, bs_kDrop, List.length_append]; exact HO5.out, Z5.out, B5.out, S5.out⟩
              case measure => simp [intOf]; omega
            · rw [h1, Int.zero_add]
              have hjn : ¬ ((jj : Int) < 0) := by omega
              have Y := Lib.hid (show D ++ planD (a.map PM.pl) (b.map PM.pl) ((a.map PM.pl).drop m) ((b.map PM.pl).drop (j + 1)) = P by
                have h := NXT.out
                rw [dropsD_in ⟨(a[jj]'hjj).pl, List.mem_map.2 ⟨_, List.getElem_mem hjj, rfl⟩, (show (a[jj]'hjj).pl.n = y.pl.n from h2)⟩] at h
                exact h)
              clear h1 h2 NXT
              go_wp2_with fail
              go_roundw
              case rel => exact ⟨j + 1, D, by go_num, JJ.out, Y.out, OQ.out, ZQ.out, BQ.out, HSQ.out⟩
              case measure => simp [intOf]; omega
          | false =>
            have hsl : ∀ w, (binOp .lss 9 (.string (bs y.n)) (.string (bs x.n))).run Tryz.prog w = .ok (.bool false) w := fun w => by rw [run_lss, hlt]
            have hsb : Op.bytesLess (bs y.n).toList (bs x.n).toList = false := by rw [bs_tl', bs_tl']; exact hlt
            have NXT := Lib.hid (show D ++ ([kindD (b.map PM.pl) x.pl] ++ planD (a.map PM.pl) (b.map PM.pl) ((a.map PM.pl).drop (m + 1)) ((b.map PM.pl).drop j)) = P by
              have h := HI.out
              rw [hAd, hBd, planD_ge _ _ _ _ hlt, ← hBd] at h
              exact h)
            clear hx hy hAd hBd HI hlt
            go_wp2_with fail
            go_quiet (fail)
            go_wp2_with fail
            refine (FT.out x.n _ (below_drewN BW.out _)).mono ?_
            rintro e wq ⟨rfl, hwq⟩
            have BQ := Lib.hid (show Below w.heap.size w wq by rw [hwq]; first | exact BW.out | exact below_drewN BW.out _)
            have OQ := Lib.hid (show wq.ownsRow (g + 1) 50 2 (.slice va D.length vc) D.length (scells D) by rw [hwq]; exact HO.out)
            have ZQ := Lib.hid (show wq.heap[w.heap.size]? = some (.cells #[.int .i64 0, .int .i64 0] 26 (0, 0)) by rw [hwq]; exact HZ.out)
            have HSQ := Lib.hid (show g + 1 ≤ wq.heap.size by rw [hwq]; exact HSZ.out)
            clear hwq
            obtain ⟨xe0, xe1, xe2⟩ := m_cells (HS1.out.below BQ.out) hml
            rw [HX.out] at xe0 xe1 xe2
            rcases findM_spec b x.n 0 with ⟨h1, h2⟩ | ⟨jj, hjj, h1, h2⟩
            · rw [h1]
              have Y := Lib.hid (show (D ++ [⟨kSend, x.n⟩]) ++ planD (a.map PM.pl) (b.map PM.pl) ((a.map PM.pl).drop (m + 1)) ((b.map PM.pl).drop j) = P by
                have h := NXT.out
                rw [KN.out x h2] at h
                rw [List.append_assoc]; exact h)
              clear h1 h2 NXT
              go_wp2_with (at_builtin; refine wpList_append_is rfl (.tmp 108) (.tmp 116) 45 rfl (g + 1) 50 i0 _ 2 32 Tryz.underlying45 hi hz0 hz1 hz2 rfl (by decide) _ D.length _ rfl (OQ.out.alloc _) _ 1 [.string ⟨#[115, 101, 110, 100]⟩, .string (bs x.n)] rfl (slice_oneM (heap_alloc_new _ _)) rfl (fun u hu => by simp at hu; rcases hu with rfl | rfl <;> rfl) HN1.out HN2.out (by have := HSQ.out; simp; omega) ?_; intro v' w5 hown5 hgrow _; have HO5 := Lib.hid hown5; have B5 := Lib.hid (row_below BQ.out OQ.out hgrow HG.out BQ.out.size); have Z5 := Lib.hid ((row_kept OQ.out hgrow HG.out (lt_of_block ZQ.out)).trans ZQ.out); have S5 := Lib.hid (show g + 1 ≤ w5.heap.size by have h1 := hgrow.size; have h2 := HSQ.out; simp at h1; omega); clear hown5 hgrow)
              go_roundw
              case rel => exact ⟨m + 1, j, D ++ [⟨kSend, x.n⟩], by go_num, M1.out, rfl, hj, Y.out, by rw [scells_append, scells_one, bs_kSend, List.length_append]; exact HO5.out, Z5.out, B5.out, S5.out⟩
              case measure => simp [intOf]; omega
            · rw [h1, Int.zero_add]
              have hjn : ((0 : Int) ≤ jj) := by omega
              have hjk : (jj : Int).toNat = jj := by omega
              have hjb : (jj : Int) < b.length := by omega
              obtain ⟨s', n', c', q, _, _, _, g1⟩ := (HS2.out.below BQ.out).get
              cases q
              obtain ⟨ae, hae, dx⟩ := g1 _ _ (mcells_get b jj hjj).1
              cases hae
              clear dx g1
              obtain ⟨ye0, ye1, ye2⟩ := m_cells (HS2.out.below BQ.out) hjj
              have KIND := KS.out x (by rw [← HX.out]; exact List.getElem_mem hml) jj hjj h2
              generalize b[jj]'hjj = z at ye0 ye1 ye2 KIND
              by_cases hN : z.N = x.N
              · have hNb : (z.N == x.N) = true := by rw [beq_iff_eq]; exact hN
                have hNr : ∀ w, (binOp .eql 3 (.int .i64 z.N) (.int .i64 x.N)).run Tryz.prog w = .ok (.bool true) w := fun w => (show (binOp .eql 3 (.int .i64 z.N) (.int .i64 x.N)).run Tryz.prog w = .ok (.bool (z.N == x.N)) w from rfl).trans (by rw [hNb])
                by_cases hSS : z.S = x.S
                · have hSb : (z.S == x.S) = true := by rw [beq_iff_eq]; exact hSS
                  have hSr : ∀ w, (binOp .eql 3 (.int .i64 z.S) (.int .i64 x.S)).run Tryz.prog w = .ok (.bool true) w := fun w => (show (binOp .eql 3 (.int .i64 z.S) (.int .i64 x.S)).run Tryz.prog w = .ok (.bool (z.S == x.S)) w from rfl).trans (by rw [hSb])
                  rw [if_pos ⟨hN, hSS⟩] at KIND
                  have Y := Lib.hid (show (D ++ [⟨kKeep, x.n⟩]) ++ planD (a.map PM.pl) (b.map PM.pl) ((a.map PM.pl).drop (m + 1)) ((b.map PM.pl).drop j) = P by
                    have h := NXT.out
                    rw [KIND] at h
                    rw [List.append_assoc]; exact h)
                  clear h1 h2 NXT KIND hN hSS
                  go_wp2_with fail
                  go_quiet (fail)
                  go_wp2_with (at_builtin; refine wpList_append_is rfl (.tmp 108) (.tmp 116) 45 rfl (g + 1) 50 i0 _ 2 32 Tryz.underlying45 hi hz0 hz1 hz2 rfl (by decide) _ D.length _ rfl ((show (World.drewN wq _).ownsRow (g + 1) 50 2 (.slice va D.length vc) D.length (scells D) from OQ.out).alloc _) _ 1 [.string ⟨#[107, 101, 101, 112]⟩, .string (bs x.n)] rfl (slice_oneM (heap_alloc_new _ _)) rfl (fun u hu => by simp at hu; rcases hu with rfl | rfl <;> rfl) HN1.out HN2.out (by have := HSQ.out; simp; omega) ?_; intro v' w5 hown5 hgrow' _; have hgrow := (show (wq.alloc (.cells #[.string ⟨#[107, 101, 101, 112]⟩, .string (bs x.n)] 50)).grownBy w5 (Value.slice va D.length vc).ownBlock from ⟨hgrow'.os, hgrow'.tape, hgrow'.output, hgrow'.size, hgrow'.block⟩); clear hgrow'; have HO5 := Lib.hid hown5; have B5 := Lib.hid (row_below BQ.out OQ.out hgrow HG.out BQ.out.size); have Z5 := Lib.hid ((row_kept OQ.out hgrow HG.out (lt_of_block ZQ.out)).trans ZQ.out); have S5 := Lib.hid (show g + 1 ≤ w5.heap.size by have h1 := hgrow.size; have h2 := HSQ.out; simp at h1; omega); clear hown5 hgrow)
                  go_roundw
                  case rel => exact ⟨m + 1, j, D ++ [⟨kKeep, x.n⟩], by go_num, M1.out, rfl, hj, Y.out, by rw [scells_append, scells_one, bs_kKeep, List.length_append]; exact HO5.out, Z5.out, B5.out, S5.out⟩
                  case measure => simp [intOf]; omega
                · have hSb : (z.S == x.S) = false := by rw [beq_eq_false_iff_ne]; exact hSS
                  have hSr : ∀ w, (binOp .eql 3 (.int .i64 z.S) (.int .i64 x.S)).run Tryz.prog w = .ok (.bool false) w := fun w => (show (binOp .eql 3 (.int .i64 z.S) (.int .i64 x.S)).run Tryz.prog w = .ok (.bool (z.S == x.S)) w from rfl).trans (by rw [hSb])
                  rw [if_neg (fun h => hSS h.2)] at KIND
                  have Y := Lib.hid (show (D ++ [⟨kSend, x.n⟩]) ++ planD (a.map PM.pl) (b.map PM.pl) ((a.map PM.pl).drop (m + 1)) ((b.map PM.pl).drop j) = P by
                    have h := NXT.out
                    rw [KIND] at h
                    rw [List.append_assoc]; exact h)
                  clear h1 h2 NXT KIND hN hSS
                  go_wp2_with fail
                  go_quiet (fail)
                  go_wp2_with (at_builtin; refine wpList_append_is rfl (.tmp 108) (.tmp 116) 45 rfl (g + 1) 50 i0 _ 2 32 Tryz.underlying45 hi hz0 hz1 hz2 rfl (by decide) _ D.length _ rfl ((show (World.drewN wq _).ownsRow (g + 1) 50 2 (.slice va D.length vc) D.length (scells D) from OQ.out).alloc _) _ 1 [.string ⟨#[115, 101, 110, 100]⟩, .string (bs x.n)] rfl (slice_oneM (heap_alloc_new _ _)) rfl (fun u hu => by simp at hu; rcases hu with rfl | rfl <;> rfl) HN1.out HN2.out (by have := HSQ.out; simp; omega) ?_; intro v' w5 hown5 hgrow' _; have hgrow := (show (wq.alloc (.cells #[.string ⟨#[115, 101, 110, 100]⟩, .string (bs x.n)] 50)).grownBy w5 (Value.slice va D.length vc).ownBlock from ⟨hgrow'.os, hgrow'.tape, hgrow'.output, hgrow'.size, hgrow'.block⟩); clear hgrow'; have HO5 := Lib.hid hown5; have B5 := Lib.hid (row_below BQ.out OQ.out hgrow HG.out BQ.out.size); have Z5 := Lib.hid ((row_kept OQ.out hgrow HG.out (lt_of_block ZQ.out)).trans ZQ.out); have S5 := Lib.hid (show g + 1 ≤ w5.heap.size by have h1 := hgrow.size; have h2 := HSQ.out; simp at h1; omega); clear hown5 hgrow)
                  go_roundw
                  case rel => exact ⟨m + 1, j, D ++ [⟨kSend, x.n⟩], by go_num, M1.out, rfl, hj, Y.out, by rw [scells_append, scells_one, bs_kSend, List.length_append]; exact HO5.out, Z5.out, B5.out, S5.out⟩
                  case measure => simp [intOf]; omega
              · have hNb : (z.N == x.N) = false := by rw [beq_eq_false_iff_ne]; exact hN
                have hNr : ∀ w, (binOp .eql 3 (.int .i64 z.N) (.int .i64 x.N)).run Tryz.prog w = .ok (.bool false) w := fun w => (show (binOp .eql 3 (.int .i64 z.N) (.int .i64 x.N)).run Tryz.prog w = .ok (.bool (z.N == x.N)) w from rfl).trans (by rw [hNb])
                rw [if_neg (fun h => hN h.1)] at KIND
                have Y := Lib.hid (show (D ++ [⟨kSend, x.n⟩]) ++ planD (a.map PM.pl) (b.map PM.pl) ((a.map PM.pl).drop (m + 1)) ((b.map PM.pl).drop j) = P by
                  have h := NXT.out
                  rw [KIND] at h
                  rw [List.append_assoc]; exact h)
                clear h1 h2 NXT KIND hN
                go_wp2_with fail
                go_quiet (fail)
                go_wp2_with (at_builtin; refine wpList_append_is rfl (.tmp 108) (.tmp 116) 45 rfl (g + 1) 50 i0 _ 2 32 Tryz.underlying45 hi hz0 hz1 hz2 rfl (by decide) _ D.length _ rfl ((show (World.drewN wq _).ownsRow (g + 1) 50 2 (.slice va D.length vc) D.length (scells D) from OQ.out).alloc _) _ 1 [.string ⟨#[115, 101, 110, 100]⟩, .string (bs x.n)] rfl (slice_oneM (heap_alloc_new _ _)) rfl (fun u hu => by simp at hu; rcases hu with rfl | rfl <;> rfl) HN1.out HN2.out (by have := HSQ.out; simp; omega) ?_; intro v' w5 hown5 hgrow' _; have hgrow := (show (wq.alloc (.cells #[.string ⟨#[115, 101, 110, 100]⟩, .string (bs x.n)] 50)).grownBy w5 (Value.slice va D.length vc).ownBlock from ⟨hgrow'.os, hgrow'.tape, hgrow'.output, hgrow'.size, hgrow'.block⟩); clear hgrow'; have HO5 := Lib.hid hown5; have B5 := Lib.hid (row_below BQ.out OQ.out hgrow HG.out BQ.out.size); have Z5 := Lib.hid ((row_kept OQ.out hgrow HG.out (lt_of_block ZQ.out)).trans ZQ.out); have S5 := Lib.hid (show g + 1 ≤ w5.heap.size by have h1 := hgrow.size; have h2 := HSQ.out; simp at h1; omega); clear hown5 hgrow)
                go_roundw
                case rel => exact ⟨m + 1, j, D ++ [⟨kSend, x.n⟩], by go_num, M1.out, rfl, hj, Y.out, by rw [scells_append, scells_one, bs_kSend, List.length_append]; exact HO5.out, Z5.out, B5.out, S5.out⟩
                case measure => simp [intOf]; omega
      · have hjI : ¬ (j : Int) < b.length := by omega
        have hlss : ∀ w, (binOp .lss 3 (.int .i64 (j : Int)) (.int .i64 (b.length : Int))).run Tryz.prog w = .ok (.bool false) w := fun w => (show (binOp .lss 3 (.int .i64 (j : Int)) (.int .i64 (b.length : Int))).run Tryz.prog w = .ok (.bool (decide ((j : Int) < b.length))) w from rfl).trans (by rw [decide_eq_false hjI])
        have hBn : (b.map PM.pl).drop j = [] := drop_nilM (by rw [List.length_map]; omega)
        by_cases hma : m = a.length
        · subst hma
          have hmb : ((a.length : Int) == a.length) = true := by rw [beq_iff_eq]
          have hieq : ∀ w, (binOp .eql 3 (.int .i64 (a.length : Int)) (.int .i64 (a.length : Int))).run Tryz.prog w = .ok (.bool true) w := fun w => (show (binOp .eql 3 (.int .i64 (a.length : Int)) (.int .i64 (a.length : Int))).run Tryz.prog w = .ok (.bool ((a.length : Int) == a.length)) w from rfl).trans (by rw [hmb])
          have hD : D = P := by
            have h := HI.out
            rw [drop_nilM (l := a.map PM.pl) (by rw [List.length_map]; omega), hBn, planD_end, List.append_nil] at h
            exact h
          subst hD
          clear HI hBn
          go_wp2_with fail
          go_quiet (fail)
          go_wp2_with fail
          refine (rfine_any _).mono ?_
          rintro e w8 ⟨rfl, b8⟩
          have hz8 : w8.heap[w.heap.size]? = some (.cells #[.int .i64 0, .int .i64 0] 26 (0, 0)) := (b8.block w.heap.size (lt_of_block HZ.out)).trans HZ.out
          have bb8 := ((below_trans' (below_drewN BW.out _) b8).setCell (p := ⟨w.heap.size, 0, none⟩) (Nat.le_refl _) (.int .i64 0)).setCell (p := ⟨w.heap.size, 1, none⟩) (Nat.le_refl _) (.int .i64 (-1))
          have KB : (Value.slice va D.length vc).ownBlock ≠ some w.heap.size := fun e => by have := (HO.out.lt _ e).1; have := HG.out; omega
          have O8 : w8.ownsRow w.heap.size 50 2 (.slice va D.length vc) D.length (scells D) := owns_mono' (owns_below (show (World.drewN _ _).ownsRow (g + 1) 50 2 (.slice va D.length vc) D.length (scells D) from HO.out) b8) (by have := HG.out; omega)
          have O9 := Lib.hid (ownsRow_setCell_other (ownsRow_setCell_other O8 (a := ⟨w.heap.size, 0, none⟩) KB (.int .i64 0)) (a := ⟨w.heap.size, 1, none⟩) KB (.int .i64 (-1)))
          have f0 : w8.frozen? ⟨w.heap.size, 0, none⟩ = false := by simp [World.frozen?, hz8]
          have f1 : w8.frozen? ⟨w.heap.size, 1, none⟩ = false := by simp [World.frozen?, hz8]
          have e0 : w8.cell? ⟨w.heap.size, 0, none⟩ = some (.int .i64 0) := by simp [World.cell?, hz8]
          have e1 : w8.cell? ⟨w.heap.size, 1, none⟩ = some (.int .i64 0) := by simp [World.cell?, hz8]
          obtain ⟨r0, r1⟩ := set2 hz8 (.int .i64 0) (.int .i64 (-1))
          clear b8 hz8 KB O8
          go_wp2_with fail
          refine bodyPost_ret (by simp [results, Tryz.results16, go_sem, r0, r1]; try rfl) rfl ?_
          exact ⟨_, rfl, O9.out, bb8⟩
        · have hml : m < a.length := by omega
          have hmlI : (m : Int) < a.length := by omega
          have y1 : (0 : Int) ≤ m := by omega
          have y2 : (m : Int).toNat = m := by omega
          have hmb : ((m : Int) == a.length) = false := by rw [beq_eq_false_iff_ne]; omega
          have hieq : ∀ w, (binOp .eql 3 (.int .i64 (m : Int)) (.int .i64 (a.length : Int))).run Tryz.prog w = .ok (.bool false) w := fun w => (show (binOp .eql 3 (.int .i64 (m : Int)) (.int .i64 (a.length : Int))).run Tryz.prog w = .ok (.bool ((m : Int) == a.length)) w from rfl).trans (by rw [hmb])
          have M1 := Lib.hid (show m + 1 ≤ a.length from hml)
          obtain ⟨s', n', c', q, _, _, _, g1⟩ := (HS1.out.below BW.out).get
          cases q
          obtain ⟨ax, rfl, dx⟩ := g1 _ _ (mcells_get a m hml).1
          clear dx g1
          have hAm : m < (a.map PM.pl).length := by rw [List.length_map]; exact hml
          have hAd : (a.map PM.pl).drop m = (a[m]'hml).pl :: (a.map PM.pl).drop (m + 1) := by rw [List.drop_eq_getElem_cons hAm, List.getElem_map]
          obtain ⟨xd0, xd1, xd2⟩ := m_cells (HS1.out.below BW.out) hml
          have NXT := Lib.hid (show D ++ ([kindD (b.map PM.pl) (a[m]'hml).pl] ++ planD (a.map PM.pl) (b.map PM.pl) ((a.map PM.pl).drop (m + 1)) ((b.map PM.pl).drop j)) = P by
            have h := HI.out
            rw [hAd, hBn, planD_none] at h
            rw [hBn]; exact h)
          generalize hx : a[m]'hml = x at xd0 xd1 xd2 NXT
          have HX := Lib.hid hx
          clear hx hAd hBn HI
          go_wp2_with fail
          go_quiet (fail)
          go_wp2_with fail
          refine (FT.out x.n _ (below_drewN BW.out _)).mono ?_
          rintro e wq ⟨rfl, hwq⟩
          have BQ := Lib.hid (show Below w.heap.size w wq by rw [hwq]; first | exact BW.out | exact below_drewN BW.out _)
          have OQ := Lib.hid (show wq.ownsRow (g + 1) 50 2 (.slice va D.length vc) D.length (scells D) by rw [hwq]; exact HO.out)
          have ZQ := Lib.hid (show wq.heap[w.heap.size]? = some (.cells #[.int .i64 0, .int .i64 0] 26 (0, 0)) by rw [hwq]; exact HZ.out)
          have HSQ := Lib.hid (show g + 1 ≤ wq.heap.size by rw [hwq]; exact HSZ.out)
          clear hwq
          obtain ⟨xe0, xe1, xe2⟩ := m_cells (HS1.out.below BQ.out) hml
          rw [HX.out] at xe0 xe1 xe2
          rcases findM_spec b x.n 0 with ⟨h1, h2⟩ | ⟨jj, hjj, h1, h2⟩
          · rw [h1]
            have Y := Lib.hid (show (D ++ [⟨kSend, x.n⟩]) ++ planD (a.map PM.pl) (b.map PM.pl) ((a.map PM.pl).drop (m + 1)) ((b.map PM.pl).drop j) = P by
              have h := NXT.out
              rw [KN.out x h2] at h
              rw [List.append_assoc]; exact h)
            clear h1 h2 NXT
            go_wp2_with (at_builtin; refine wpList_append_is rfl (.tmp 108) (.tmp 116) 45 rfl (g + 1) 50 i0 _ 2 32 Tryz.underlying45 hi hz0 hz1 hz2 rfl (by decide) _ D.length _ rfl (OQ.out.alloc _) _ 1 [.string ⟨#[115, 101, 110, 100]⟩, .string (bs x.n)] rfl (slice_oneM (heap_alloc_new _ _)) rfl (fun u hu => by simp at hu; rcases hu with rfl | rfl <;> rfl) HN1.out HN2.out (by have := HSQ.out; simp; omega) ?_; intro v' w5 hown5 hgrow _; have HO5 := Lib.hid hown5; have B5 := Lib.hid (row_below BQ.out OQ.out hgrow HG.out BQ.out.size); have Z5 := Lib.hid ((row_kept OQ.out hgrow HG.out (lt_of_block ZQ.out)).trans ZQ.out); have S5 := Lib.hid (show g + 1 ≤ w5.heap.size by have h1 := hgrow.size; have h2 := HSQ.out; simp at h1; omega); clear hown5 hgrow)
            go_roundw
            case rel => exact ⟨m + 1, j, D ++ [⟨kSend, x.n⟩], by go_num, M1.out, rfl, hj, Y.out, by rw [scells_append, scells_one, bs_kSend, List.length_append]; exact HO5.out, Z5.out, B5.out, S5.out⟩
            case measure => simp [intOf]; omega
          · rw [h1, Int.zero_add]
            have hjn : ((0 : Int) ≤ jj) := by omega
            have hjk : (jj : Int).toNat = jj := by omega
            have hjb : (jj : Int) < b.length := by omega
            obtain ⟨s', n', c', q, _, _, _, g1⟩ := (HS2.out.below BQ.out).get
            cases q
            obtain ⟨ae, hae, dx⟩ := g1 _ _ (mcells_get b jj hjj).1
            cases hae
            clear dx g1
            obtain ⟨ye0, ye1, ye2⟩ := m_cells (HS2.out.below BQ.out) hjj
            have KIND := KS.out x (by rw [← HX.out]; exact List.getElem_mem hml) jj hjj h2
            generalize b[jj]'hjj = z at ye0 ye1 ye2 KIND
            by_cases hN : z.N = x.N
            · have hNb : (z.N == x.N) = true := by rw [beq_iff_eq]; exact hN
              have hNr : ∀ w, (binOp .eql 3 (.int .i64 z.N) (.int .i64 x.N)).run Tryz.prog w = .ok (.bool true) w := fun w => (show (binOp .eql 3 (.int .i64 z.N) (.int .i64 x.N)).run Tryz.prog w = .ok (.bool (z.N == x.N)) w from rfl).trans (by rw [hNb])
              by_cases hSS : z.S = x.S
              · have hSb : (z.S == x.S) = true := by rw [beq_iff_eq]; exact hSS
                have hSr : ∀ w, (binOp .eql 3 (.int .i64 z.S) (.int .i64 x.S)).run Tryz.prog w = .ok (.bool true) w := fun w => (show (binOp .eql 3 (.int .i64 z.S) (.int .i64 x.S)).run Tryz.prog w = .ok (.bool (z.S == x.S)) w from rfl).trans (by rw [hSb])
                rw [if_pos ⟨hN, hSS⟩] at KIND
                have Y := Lib.hid (show (D ++ [⟨kKeep, x.n⟩]) ++ planD (a.map PM.pl) (b.map PM.pl) ((a.map PM.pl).drop (m + 1)) ((b.map PM.pl).drop j) = P by
                  have h := NXT.out
                  rw [KIND] at h
                  rw [List.append_assoc]; exact h)
                clear h1 h2 NXT KIND hN hSS
                go_wp2_with fail
                go_quiet (fail)
                go_wp2_with (at_builtin; refine wpList_append_is rfl (.tmp 108) (.tmp 116) 45 rfl (g + 1) 50 i0 _ 2 32 Tryz.underlying45 hi hz0 hz1 hz2 rfl (by decide) _ D.length _ rfl ((show (World.drewN wq _).ownsRow (g + 1) 50 2 (.slice va D.length vc) D.length (scells D) from OQ.out).alloc _) _ 1 [.string ⟨#[107, 101, 101, 112]⟩, .string (bs x.n)] rfl (slice_oneM (heap_alloc_new _ _)) rfl (fun u hu => by simp at hu; rcases hu with rfl | rfl <;> rfl) HN1.out HN2.out (by have := HSQ.out; simp; omega) ?_; intro v' w5 hown5 hgrow' _; have hgrow := (show (wq.alloc (.cells #[.string ⟨#[107, 101, 101, 112]⟩, .string (bs x.n)] 50)).grownBy w5 (Value.slice va D.length vc).ownBlock from ⟨hgrow'.os, hgrow'.tape, hgrow'.output, hgrow'.size, hgrow'.block⟩); clear hgrow'; have HO5 := Lib.hid hown5; have B5 := Lib.hid (row_below BQ.out OQ.out hgrow HG.out BQ.out.size); have Z5 := Lib.hid ((row_kept OQ.out hgrow HG.out (lt_of_block ZQ.out)).trans ZQ.out); have S5 := Lib.hid (show g + 1 ≤ w5.heap.size by have h1 := hgrow.size; have h2 := HSQ.out; simp at h1; omega); clear hown5 hgrow)
                go_roundw
                case rel => exact ⟨m + 1, j, D ++ [⟨kKeep, x.n⟩], by go_num, M1.out, rfl, hj, Y.out, by rw [scells_append, scells_one, bs_kKeep, List.length_append]; exact HO5.out, Z5.out, B5.out, S5.out⟩
                case measure => simp [intOf]; omega
              · have hSb : (z.S == x.S) = false := by rw [beq_eq_false_iff_ne]; exact hSS
                have hSr : ∀ w, (binOp .eql 3 (.int .i64 z.S) (.int .i64 x.S)).run Tryz.prog w = .ok (.bool false) w := fun w => (show (binOp .eql 3 (.int .i64 z.S) (.int .i64 x.S)).run Tryz.prog w = .ok (.bool (z.S == x.S)) w from rfl).trans (by rw [hSb])
                rw [if_neg (fun h => hSS h.2)] at KIND
                have Y := Lib.hid (show (D ++ [⟨kSend, x.n⟩]) ++ planD (a.map PM.pl) (b.map PM.pl) ((a.map PM.pl).drop (m + 1)) ((b.map PM.pl).drop j) = P by
                  have h := NXT.out
                  rw [KIND] at h
                  rw [List.append_assoc]; exact h)
                clear h1 h2 NXT KIND hN hSS
                go_wp2_with fail
                go_quiet (fail)
                go_wp2_with (at_builtin; refine wpList_append_is rfl (.tmp 108) (.tmp 116) 45 rfl (g + 1) 50 i0 _ 2 32 Tryz.underlying45 hi hz0 hz1 hz2 rfl (by decide) _ D.length _ rfl ((show (World.drewN wq _).ownsRow (g + 1) 50 2 (.slice va D.length vc) D.length (scells D) from OQ.out).alloc _) _ 1 [.string ⟨#[115, 101, 110, 100]⟩, .string (bs x.n)] rfl (slice_oneM (heap_alloc_new _ _)) rfl (fun u hu => by simp at hu; rcases hu with rfl | rfl <;> rfl) HN1.out HN2.out (by have := HSQ.out; simp; omega) ?_; intro v' w5 hown5 hgrow' _; have hgrow := (show (wq.alloc (.cells #[.string ⟨#[115, 101, 110, 100]⟩, .string (bs x.n)] 50)).grownBy w5 (Value.slice va D.length vc).ownBlock from ⟨hgrow'.os, hgrow'.tape, hgrow'.output, hgrow'.size, hgrow'.block⟩); clear hgrow'; have HO5 := Lib.hid hown5; have B5 := Lib.hid (row_below BQ.out OQ.out hgrow HG.out BQ.out.size); have Z5 := Lib.hid ((row_kept OQ.out hgrow HG.out (lt_of_block ZQ.out)).trans ZQ.out); have S5 := Lib.hid (show g + 1 ≤ w5.heap.size by have h1 := hgrow.size; have h2 := HSQ.out; simp at h1; omega); clear hown5 hgrow)
                go_roundw
                case rel => exact ⟨m + 1, j, D ++ [⟨kSend, x.n⟩], by go_num, M1.out, rfl, hj, Y.out, by rw [scells_append, scells_one, bs_kSend, List.length_append]; exact HO5.out, Z5.out, B5.out, S5.out⟩
                case measure => simp [intOf]; omega
            · have hNb : (z.N == x.N) = false := by rw [beq_eq_false_iff_ne]; exact hN
              have hNr : ∀ w, (binOp .eql 3 (.int .i64 z.N) (.int .i64 x.N)).run Tryz.prog w = .ok (.bool false) w := fun w => (show (binOp .eql 3 (.int .i64 z.N) (.int .i64 x.N)).run Tryz.prog w = .ok (.bool (z.N == x.N)) w from rfl).trans (by rw [hNb])
              rw [if_neg (fun h => hN h.1)] at KIND
              have Y := Lib.hid (show (D ++ [⟨kSend, x.n⟩]) ++ planD (a.map PM.pl) (b.map PM.pl) ((a.map PM.pl).drop (m + 1)) ((b.map PM.pl).drop j) = P by
                have h := NXT.out
                rw [KIND] at h
                rw [List.append_assoc]; exact h)
              clear h1 h2 NXT KIND hN
              go_wp2_with fail
              go_quiet (fail)
              go_wp2_with (at_builtin; refine wpList_append_is rfl (.tmp 108) (.tmp 116) 45 rfl (g + 1) 50 i0 _ 2 32 Tryz.underlying45 hi hz0 hz1 hz2 rfl (by decide) _ D.length _ rfl ((show (World.drewN wq _).ownsRow (g + 1) 50 2 (.slice va D.length vc) D.length (scells D) from OQ.out).alloc _) _ 1 [.string ⟨#[115, 101, 110, 100]⟩, .string (bs x.n)] rfl (slice_oneM (heap_alloc_new _ _)) rfl (fun u hu => by simp at hu; rcases hu with rfl | rfl <;> rfl) HN1.out HN2.out (by have := HSQ.out; simp; omega) ?_; intro v' w5 hown5 hgrow' _; have hgrow := (show (wq.alloc (.cells #[.string ⟨#[115, 101, 110, 100]⟩, .string (bs x.n)] 50)).grownBy w5 (Value.slice va D.length vc).ownBlock from ⟨hgrow'.os, hgrow'.tape, hgrow'.output, hgrow'.size, hgrow'.block⟩); clear hgrow'; have HO5 := Lib.hid hown5; have B5 := Lib.hid (row_below BQ.out OQ.out hgrow HG.out BQ.out.size); have Z5 := Lib.hid ((row_kept OQ.out hgrow HG.out (lt_of_block ZQ.out)).trans ZQ.out); have S5 := Lib.hid (show g + 1 ≤ w5.heap.size by have h1 := hgrow.size; have h2 := HSQ.out; simp at h1; omega); clear hown5 hgrow)
              go_roundw
              case rel => exact ⟨m + 1, j, D ++ [⟨kSend, x.n⟩], by go_num, M1.out, rfl, hj, Y.out, by rw [scells_append, scells_one, bs_kSend, List.length_append]; exact HO5.out, Z5.out, B5.out, S5.out⟩
              case measure => simp [intOf]; omega
end Go.Proofs.YtapdfgnfblkncaaGreatDoor
