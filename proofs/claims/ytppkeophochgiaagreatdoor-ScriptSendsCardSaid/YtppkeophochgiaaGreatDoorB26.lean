/- Texts of one proof, one behind the other: Gate, XferAt, XferPut, XferAsk. -/
import Derived.Test.YtppkeophochgiaaGreatDoorB25
import Derived.Test.YtppkeophochgiaaGreatDoorB11
import Derived.Test.YtppkeophochgiaaGreatDoorB03
import Derived.Test.YtppkeophochgiaaGreatDoorB18
import Derived.Test.YtppkeophochgiaaGreatDoorB08
/- Contracts of gates: New, may, Last, Admit, Open, Set. -/
namespace Go.Proofs.YtppkeophochgiaaGreatDoor
open Go.RowKit
set_option linter.unusedVariables false

theorem GMapIs.len {w : World} {b n : Nat} {m : GM} (h : GMapIs w b n m) (ty : TypeId) : (Builtin.len_ #[110] ty #[.map (some b)]).run Tryz.prog w = .ok (.int .i64 (m.length : Nat)) w := by
  obtain ⟨D, h1, _, h3⟩ := h
  rw [h1.len Tryz.underlying110, h3]
structure GtAt (w : World) (gb mb n : Nat) (m : GM) : Prop where
  cells : w.heap[gb]? = some (.cells #[.map (some mb)] 112 (0, 0))
  map : GMapIs w mb n m
  ne : gb ≠ mb
theorem GtAt.kept {w w' : World} {gb mb n : Nat} {m : GM} {S : Nat → Prop} (h : GtAt w gb mb n m) (hc : Chg w w' S) (h1 : ¬ S gb) (h2 : ¬ S mb) : GtAt w' gb mb n m :=
  ⟨(hc.block gb (lt_of_block h.cells) h1).trans h.cells, h.map.kept (hc.block mb h.map.lt h2), h.ne⟩
theorem GtAt.below {w w' : World} {gb mb n : Nat} {m : GM} (h : GtAt w gb mb n m) (hb : Below w.heap.size w w') : GtAt w' gb mb n m := h.kept (Chg.of_below hb (fun _ => False)) (fun h => h) (fun h => h)
theorem GtAt.mono {w : World} {gb mb n n' : Nat} {m : GM} (h : GtAt w gb mb n m) (hn : n ≤ n') : GtAt w gb mb n' m := ⟨h.cells, h.map.mono hn, h.ne⟩
theorem GtAt.c0 {w : World} {gb mb n : Nat} {m : GM} (h : GtAt w gb mb n m) : w.cell? ⟨gb, 0, none⟩ = some (.map (some mb)) := by simp [World.cell?, h.cells]
theorem GtAt.store {w w1 : World} {gb mb n : Nat} {m m' : GM} (h : GtAt w gb mb n m) (hm : GMapIs w1 mb (n + 1) m') (ht : w.mapTurned w1 mb) : GtAt w1 gb mb (n + 1) m' ∧ Chg w w1 (fun x => x = mb) := by
  have hc := Chg.of_grown ht.grown
  exact ⟨⟨(hc.block gb (lt_of_block h.cells) h.ne).trans h.cells, hm, h.ne⟩, hc⟩
set_option maxRecDepth 100000 in
set_option maxHeartbeats 1600000 in
theorem gnew_any (w : World) : Calls Tryz.prog 21 #[] w fun e w' => ∃ gb mb, e = .returned (.pointer (some ⟨gb, 0, none⟩)) ∧ GtAt w' gb mb 0 [] ∧ Below w.heap.size w w' ∧ w.heap.size ≤ gb ∧ w.heap.size ≤ mb := by
  have M0 := Lib.hid (GMapIs.made w)
  have hmm := @run_makeMap Tryz.prog
  go_enter Tryz.func21, Tryz.ntmps21
  go_wp2_with fail
  go_ret
  have b1 := wb_alloc w (.map #[] 0)
  have hn := heap_alloc_new (w.alloc (.map #[] 0)) (.cells #[.map (some w.heap.size)] 112)
  rw [show (w.alloc (.map #[] 0)).heap.size = w.heap.size + 1 by simp] at hn
  refine ⟨_, w.heap.size, rfl, ⟨hn, ?_, ?_⟩, b1.alloc b1.size _, ?_, Nat.le_refl _⟩
  · exact M0.out.kept ((wb_alloc (w.alloc (.map #[] 0)) _).block _ (by simp))
  · simp
  · simp
attribute [local irreducible] mayC opC' opN opM adC glk gput nameB
section
variable {E : Nat → Addr} {gb mb n : Nat} {m : GM} {w : World}
set_option maxRecDepth 100000 in
set_option maxHeartbeats 3200000 in
theorem gmay_any (k : List UInt8) (h : GtAt w gb mb n m) (hk : k.length ≤ 1000000000) (h5 : Has E w 5) (h8 : Has E w 8) :
    Calls Tryz.prog 161 #[.pointer (some ⟨gb, 0, none⟩), .string (bs k)] w fun e w' => e = .returned (ev E (mayC m k)) ∧ Below w.heap.size w w' := by
  have NM := Lib.hid (fun w' => flname_any k w' (by unfold maxLen; omega))
  have E5 := Lib.hid (fun (w' : World) (b : Below w.heap.size w w') => show w'.cell? ⟨4, 0, none⟩ = some (errv (E 5)) from h5.below b)
  have E8 := Lib.hid (fun (w' : World) (b : Below w.heap.size w w') => show w'.cell? ⟨7, 0, none⟩ = some (errv (E 8)) from h8.below b)
  have C0 := Lib.hid (fun (w' : World) (b : Below w.heap.size w w') => (h.below b).c0)
  have LK := Lib.hid (fun (w' : World) (b : Below w.heap.size w w') => (h.below b).map.look (k := k) (by unfold maxLen; omega))
  have LN := Lib.hid (fun (w' : World) (b : Below w.heap.size w w') => (h.below b).map.len)
  clear h h5 h8
  by_cases hnm : nameB k = true
  · rw [hnm] at NM
    by_cases hf : glk m k = 0 ∧ 20 ≤ m.length
    · rw [mayC_full hnm hf, ev_is E (by decide)]
      have hz : (((glk m k : Nat) : Int) == 0) = true := by rw [beq_iff_eq]; omega
      have hlI : (20 : Int) ≤ m.length := by omega
      clear hf hnm E5
      generalize glk m k = z at *
      go_enter Tryz.func161, Tryz.ntmps161
      go_wp2_with fail
      refine (NM.out _).mono ?_
      rintro e w1 ⟨rfl, b1⟩
      have c0 := C0.out _ b1
      have lk := LK.out _ b1
      have ln := LN.out _ b1
      have c8 := E8.out _ b1
      clear C0 LK LN E8 NM
      go_wp2_with fail
      go_ret
      exact ⟨rfl, b1⟩
    · rw [mayC_ok hnm hf, ev_zero]
      have hor : ((((glk m k : Nat) : Int) == 0) = false) ∨ ((((glk m k : Nat) : Int) == 0) = true ∧ ¬ (20 : Int) ≤ m.length) := by
        by_cases hz : glk m k = 0
        · exact .inr ⟨by rw [beq_iff_eq]; omega, by omega⟩
        · exact .inl (by rw [beq_eq_false_iff_ne]; omega)
      clear hf hnm E5 E8
      generalize glk m k = z at *
      rcases hor with hz | ⟨hz, hl⟩
      all_goals
        go_enter Tryz.func161, Tryz.ntmps161
        go_wp2_with fail
        refine (NM.out _).mono ?_
        rintro e w1 ⟨rfl, b1⟩
        have c0 := C0.out _ b1
        have lk := LK.out _ b1
        have ln := LN.out _ b1
        clear C0 LK LN NM
        go_wp2_with fail
        go_ret
        exact ⟨rfl, b1⟩
  · have hnm' : nameB k = false := by simpa using hnm
    rw [hnm'] at NM
    rw [mayC_name hnm', ev_is E (by decide)]
    clear hnm hnm' C0 LK LN E8
    go_enter Tryz.func161, Tryz.ntmps161
    go_wp2_with fail
    refine (NM.out _).mono ?_
    rintro e w1 ⟨rfl, b1⟩
    have c5 := E5.out _ b1
    clear NM E5
    go_wp2_with fail
    go_ret
    exact ⟨rfl, b1⟩
theorem ad_none {k : List UInt8} {x : Int} (h : glk m k = 0) : adC m k x = 6 := by unfold adC; rw [if_pos h]
theorem ad_ok {k : List UInt8} {x : Int} (h : glk m k ≠ 0) (h2 : (glk m k : Int) = x) : adC m k x = 0 := by unfold adC; rw [if_neg h, if_pos h2]
theorem ad_stale {k : List UInt8} {x : Int} (h : glk m k ≠ 0) (h2 : (glk m k : Int) ≠ x) : adC m k x = 11 := by unfold adC; rw [if_neg h, if_neg h2]
set_option maxRecDepth 100000 in
set_option maxHeartbeats 3200000 in
theorem gadmit_any (k : List UInt8) (x : Int) (h : GtAt w gb mb n m) (hk : k.length ≤ 1000000000) (h6 : Has E w 6) (h11 : Has E w 11) :
    Calls Tryz.prog 119 #[.pointer (some ⟨gb, 0, none⟩), .string (bs k), .int .i64 x] w fun e w' => e = .returned (ev E (adC m k x)) ∧ w = w' := by
  have c0 := h.c0
  have lk := h.map.look (k := k) (by unfold maxLen; omega)
  have c6 : w.cell? ⟨5, 0, none⟩ = some (errv (E 6)) := h6
  have c11 : w.cell? ⟨10, 0, none⟩ = some (errv (E 11)) := h11
  clear h h6 h11
  by_cases h0 : glk m k = 0
  · rw [ad_none h0, ev_is E (by decide)]
    have hz : (((glk m k : Nat) : Int) == 0) = true := by rw [beq_iff_eq]; omega
    clear h0
    generalize glk m k = z at *
    go_enter Tryz.func119, Tryz.ntmps119
    go_wp2_with fail
    go_ret
    exact ⟨rfl, rfl⟩
  · have hz : (((glk m k : Nat) : Int) == 0) = false := by rw [beq_eq_false_iff_ne]; omega
    by_cases hx : (glk m k : Int) = x
    · rw [ad_ok h0 hx, ev_zero]
      have hq : (((glk m k : Nat) : Int) == x) = true := by rw [beq_iff_eq]; exact hx
      clear h0 hx
      generalize glk m k = z at *
      go_enter Tryz.func119, Tryz.ntmps119
      go_wp2_with fail
      go_ret
      exact ⟨rfl, rfl⟩
    · rw [ad_stale h0 hx, ev_is E (by decide)]
      have hq : (((glk m k : Nat) : Int) == x) = false := by rw [beq_eq_false_iff_ne]; exact hx
      clear h0 hx
      generalize glk m k = z at *
      go_enter Tryz.func119, Tryz.ntmps119
      go_wp2_with fail
      go_ret
      exact ⟨rfl, rfl⟩
set_option maxRecDepth 100000 in
set_option maxHeartbeats 6400000 in
theorem gopen_any (k : List UInt8) (h : GtAt w gb mb n m) (hk : k.length ≤ 1000000000) (hn : n < 1000000000) (h2 : Has E w 2) (h5 : Has E w 5) (h8 : Has E w 8) :
    Calls Tryz.prog 118 #[.pointer (some ⟨gb, 0, none⟩), .string (bs k)] w fun e w' => e = .returned (.tuple #[.int .i64 (opN m k : Nat), ev E (opC' m k)]) ∧ GtAt w' gb mb (n + 1) (opM m k) ∧ Chg w w' (fun x => x = mb) := by
  have MY := Lib.hid (gmay_any (E := E) k h hk h5 h8)
  have C0 := Lib.hid (fun (w' : World) (b : Below w.heap.size w w') => (h.below b).c0)
  have LK := Lib.hid (fun (w' : World) (b : Below w.heap.size w w') => (h.below b).map.look (k := k) (by unfold maxLen; omega))
  have E2 := Lib.hid (fun (w' : World) (b : Below w.heap.size w w') => show w'.cell? ⟨0, 0, none⟩ = some (errv (E 2)) from h2.below b)
  have HH := Lib.hid h
  clear h2 h5 h8 h
  by_cases hm : mayC m k = 0
  · rw [hm, ev_zero] at MY
    by_cases ht : 2147483648 ≤ glk m k
    · obtain ⟨e1, e2, e3⟩ := op_top hm ht
      rw [e1, e2, e3, ev_is E (by decide)]
      have htI : (2147483648 : Int) ≤ ((glk m k : Nat) : Int) := by omega
      clear e1 e2 e3 hm ht
      generalize glk m k = z at *
      go_enter Tryz.func118, Tryz.ntmps118
      go_wp2_with fail
      refine MY.out.mono ?_
      rintro e w1 ⟨rfl, b1⟩
      have c0 := C0.out _ b1
      have lk := LK.out _ b1
      have c2 := E2.out _ b1
      have B1 := Lib.hid b1
      clear b1 C0 LK E2 MY
      go_wp2_with fail
      go_quiet (fail)
      go_wp2_with fail
      go_ret2
      have bb := below_drewN B1.out ‹Nat›
      exact ⟨rfl, (HH.out.below (below_drewN B1.out _)).mono (by omega), Chg.of_below (below_drewN B1.out _) _⟩
    · obtain ⟨e1, e2, e3⟩ := op_ok hm ht
      rw [e1, e2, e3, ev_zero]
      have htI : ¬ (2147483648 : Int) ≤ ((glk m k : Nat) : Int) := by omega
      have ST := Lib.hid (fun (w' : World) (b : Below w.heap.size w w') => (HH.out.below b).map.store (k := k) (v := glk m k + 1) (by unfold maxLen; omega) (by omega) (by unfold maxLen; omega))
      have LK2 := Lib.hid (fun (w' : World) (hm' : GMapIs w' mb (n + 1) (gput m k (glk m k + 1))) => hm'.look (k := k) (by unfold maxLen; omega))
      rw [glk_same] at LK2
      clear e1 e2 e3 hm ht E2
      go_enter Tryz.func118, Tryz.ntmps118
      go_wp2_with fail
      refine MY.out.mono ?_
      rintro e w1 ⟨rfl, b1⟩
      have c0 := C0.out _ b1
      have lk := LK.out _ b1
      obtain ⟨w2, st, hm2, ht2⟩ := ST.out _ b1
      obtain ⟨g2, ch2⟩ := (HH.out.below b1).store hm2 ht2
      have c02 := g2.c0
      have lk2 := LK2.out _ hm2
      have G2 := Lib.hid g2
      have CH := Lib.hid ((Chg.of_below b1 (fun x => x = mb)).trans ch2 (fun _ _ h => h))
      clear b1 C0 LK MY ST LK2 hm2 ht2 g2 ch2
      rw [Int.natCast_add] at st
      replace st : (Instr.mapUpdate 110 (.map (some mb)) (.string (bs k)) (.int .i64 (((glk m k : Nat) : Int) + 1))).run Tryz.prog w1 = .ok () w2 := st
      have hz0 : (0 : Int) ≤ ((glk m k : Nat) : Int) := by omega
      generalize hz1 : glk m k + 1 = z1 at st lk2 G2
      have HZ1 := Lib.hid hz1
      clear hz1
      generalize ((glk m k : Nat) : Int) = z at *
      go_wp2_with fail
      go_ret2
      rcases HZ1.out with rfl
      exact ⟨rfl, G2.out, CH.out⟩
  · obtain ⟨e1, e2, e3⟩ := op_may (m := m) (k := k) hm
    rw [e1, e2, e3]
    rw [ev_pos E hm] at MY ⊢
    clear e1 e2 e3 C0 LK E2 hm
    generalize mayC m k = c at *
    go_enter Tryz.func118, Tryz.ntmps118
    go_wp2_with fail
    refine MY.out.mono ?_
    rintro e w1 ⟨rfl, b1⟩
    have B1 := Lib.hid b1
    clear b1 MY
    go_wp2_with fail
    go_ret2
    exact ⟨rfl, (HH.out.below B1.out).mono (by omega), Chg.of_below B1.out _⟩
end
end Go.Proofs.YtppkeophochgiaaGreatDoor
/- A transfer in memory: its cells, and what they lead to. -/
namespace Go.Proofs.YtppkeophochgiaaGreatDoor
open Go.RowKit
set_option linter.unusedVariables false

def pk0 (p : List UInt8 × Bool) : Value := .string (bs p.1)
def pk1 (p : List UInt8 × Bool) : Value := .bool p.2
def pcells (l : List (List UInt8 × Bool)) : List Value := rowc pk0 pk1 l
theorem pcells_len (l : List (List UInt8 × Bool)) : (pcells l).length = l.length * 2 := rowc_len _ _ l
theorem pcells_get (l : List (List UInt8 × Bool)) (k : Nat) (h : k < l.length) : (pcells l)[k * 2]? = some (.string (bs l[k].1)) ∧ (pcells l)[k * 2 + 1]? = some (.bool l[k].2) := rowc_get _ _ l k h
theorem pcells_append (l m : List (List UInt8 × Bool)) : pcells (l ++ m) = pcells l ++ pcells m := rowc_append _ _ l m
def tokX : List UInt8 := [120]
/-- the gate's map: the one token, once there is an epoch -/
def gmap (n : Nat) : GM := if n = 0 then [] else [(tokX, n)]
theorem gmap_glk (n : Nat) : glk (gmap n) tokX = n := by
  unfold gmap
  by_cases h : n = 0
  · rw [if_pos h, h]; rfl
  · rw [if_neg h]; simp [glk]
/-- the addresses of a transfer's parts -/
structure XA where
  vf : Value
  vt : Value
  vn : Value
  vl : Value
  gb : Nat
  mb : Nat
  fb : Nat
  ub : Nat
def xcells (A : XA) (pf pu : Value) (x : XS) : Array Value := #[A.vf, A.vt, .pointer (some ⟨A.gb, 0, none⟩), A.vn, .int .i64 x.ep, .int .i64 x.sq, .int .u8 x.ask.k.toNat, .int .i64 x.ask.e, .int .i64 x.ask.q, .string (bs x.ask.d), .int .i64 x.age, pf, A.vl, .bool x.kn, pu, .bool x.dn]
/-- all but its own cells, the flow and the names that want all -/
structure XRest (w0 w : World) (A : XA) (x : XS) : Prop where
  fr : w.ownsRow w0.heap.size 130 2 A.vf x.fr.length (fcells x.fr)
  tt : w.ownsRow w0.heap.size 130 2 A.vt x.tt.length (fcells x.tt)
  nt : w.ownsRow w0.heap.size 255 2 A.vn x.net.length (pcells x.net)
  ln : w.ownsRow w0.heap.size 179 3 A.vl x.ln.length (lcells x.ln)
  gt : GtAt w A.gb A.mb x.ge (gmap x.ge)
  lm : w0.heap.size ≤ A.mb
  bel : Below w0.heap.size w0 w
def XCell (w : World) (xb : Nat) (A : XA) (pf pu : Value) (x : XS) : Prop := w.heap[xb]? = some (.cells (xcells A pf pu x) 252 (0, 0))
structure XAt (w0 w : World) (xb : Nat) (A : XA) (x : XS) : Prop where
  cells : XCell w xb A (.pointer (some ⟨A.fb, 0, none⟩)) (.map (some A.ub)) x
  rest : XRest w0 w A x
  fl : FlowAt w A.fb x.W x.L x.T x.G
  fu : FMapIs w A.ub x.fu.length x.fu
  ne : A.ub ≠ A.mb
  lx : w0.heap.size ≤ xb
  lf : w0.heap.size ≤ A.fb
  lu : w0.heap.size ≤ A.ub
section
variable {w0 w w' : World} {xb : Nat} {A : XA} {x : XS} {pf pu : Value}
theorem cells_ne {a b : Nat} {cs cs' : Array Value} {t t' : TypeId} {f f' : Nat × Nat} (h1 : w.heap[a]? = some (.cells cs t f)) (h2 : w.heap[b]? = some (.cells cs' t' f')) (hne : t ≠ t') : a ≠ b := by
  rintro rfl
  rw [h1] at h2
  injection h2 with h2
  injection h2 with _ h3 _
  exact hne h3
theorem cells_map {a b : Nat} {cs : Array Value} {t : TypeId} {f : Nat × Nat} {es} {c} (h1 : w.heap[a]? = some (.cells cs t f)) (h2 : w.heap[b]? = some (.map es c)) : a ≠ b := by
  rintro rfl
  rw [h1] at h2
  cases h2
/-- a row of one kind of cells is no block of another kind -/
theorem own_ne {base size n : Nat} {e t : TypeId} {v : Value} {xs : List Value} (h : w.ownsRow base e size v n xs) {y : Nat} {cs : Array Value} {f : Nat × Nat} (hy : w.heap[y]? = some (.cells cs t f)) (hne : t ≠ e) : v.ownBlock ≠ some y := by
  rcases h.2 with ⟨rfl, _⟩ | ⟨g, cap, cur, rfl, _, hg, _⟩
  · simp [Value.ownBlock]
  · intro e1
    have : g = y := by simpa [Value.ownBlock] using e1
    subst this
    rw [hg] at hy
    cases hy
    exact hne rfl
theorem own_ne_map {base size n : Nat} {e : TypeId} {v : Value} {xs : List Value} (h : w.ownsRow base e size v n xs) {y : Nat} {es} {c} (hy : w.heap[y]? = some (.map es c)) : v.ownBlock ≠ some y := by
  rcases h.2 with ⟨rfl, _⟩ | ⟨g, cap, cur, rfl, _, hg, _⟩
  · simp [Value.ownBlock]
  · intro e1
    have : g = y := by simpa [Value.ownBlock] using e1
    subst this
    rw [hg] at hy
    cases hy
theorem own_ne_own {b1 b2 s1 s2 n1 n2 : Nat} {e1 e2 : TypeId} {v1 v2 : Value} {xs1 xs2 : List Value} (h1 : w.ownsRow b1 e1 s1 v1 n1 xs1) (h2 : w.ownsRow b2 e2 s2 v2 n2 xs2) (hne : e1 ≠ e2) {y : Nat} (hy : v1.ownBlock = some y) : v2.ownBlock ≠ some y := by
  rcases h1.2 with ⟨rfl, _⟩ | ⟨g, cap, cur, rfl, _, hg, _⟩
  · simp [Value.ownBlock] at hy
  · have : g = y := by simpa [Value.ownBlock] using hy
    subst this
    exact own_ne h2 hg hne
theorem GtAt.mapObj {gb mb n : Nat} {m : GM} (h : GtAt w gb mb n m) : ∃ es c, w.heap[mb]? = some (.map es c) := by
  obtain ⟨D, ⟨es, clock, hb, _⟩, _⟩ := h.map
  exact ⟨es, clock, hb⟩
/-- one block of another kind changes -/
theorem XRest.at (h : XRest w0 w A x) {y : Nat} {cs : Array Value} {t : TypeId} {f : Nat × Nat} (hc : Chg w w' (fun b => b = y)) (hy : w.heap[y]? = some (.cells cs t f)) (ht : t ≠ 130 ∧ t ≠ 255 ∧ t ≠ 179 ∧ t ≠ 112) (lo : w0.heap.size ≤ y) : XRest w0 w' A x := by
  obtain ⟨es, c, hm⟩ := h.gt.mapObj
  refine ⟨own_other h.fr hc (fun z hz e => own_ne h.fr hy ht.1 (by rw [hz, e])), own_other h.tt hc (fun z hz e => own_ne h.tt hy ht.1 (by rw [hz, e])), own_other h.nt hc (fun z hz e => own_ne h.nt hy ht.2.1 (by rw [hz, e])), own_other h.ln hc (fun z hz e => own_ne h.ln hy ht.2.2.1 (by rw [hz, e])), h.gt.kept hc (fun e => ?_) (fun e => ?_), h.lm, hc.below h.bel (fun z hz => by subst hz; exact lo)⟩
  · have := h.gt.cells; rw [e, hy] at this; cases this; exact ht.2.2.2 rfl
  · rw [e, hy] at hm; cases hm
/-- another map changes -/
theorem XRest.mapAt (h : XRest w0 w A x) {y : Nat} {es} {c} (hc : Chg w w' (fun b => b = y)) (hy : w.heap[y]? = some (.map es c)) (hne : y ≠ A.mb) (lo : w0.heap.size ≤ y) : XRest w0 w' A x := by
  refine ⟨own_other h.fr hc (fun z hz e => own_ne_map h.fr hy (by rw [hz, e])), own_other h.tt hc (fun z hz e => own_ne_map h.tt hy (by rw [hz, e])), own_other h.nt hc (fun z hz e => own_ne_map h.nt hy (by rw [hz, e])), own_other h.ln hc (fun z hz e => own_ne_map h.ln hy (by rw [hz, e])), h.gt.kept hc (fun e => ?_) (fun e => hne e.symm), h.lm, hc.below h.bel (fun z hz => by subst hz; exact lo)⟩
  have := h.gt.cells; rw [e, hy] at this; cases this
theorem XRest.below (h : XRest w0 w A x) (hb : Below w.heap.size w w') : XRest w0 w' A x := ⟨owns_below h.fr hb, owns_below h.tt hb, owns_below h.nt hb, owns_below h.ln hb, h.gt.below hb, h.lm, below_trans' h.bel hb⟩
/-- the net's row changes -/
theorem XRest.netAt (h : XRest w0 w A x) {v' : Value} {net' : List (List UInt8 × Bool)} (hc : Chg w w' (fun b => A.vn.ownBlock = some b)) (hn : w'.ownsRow w0.heap.size 255 2 v' net'.length (pcells net')) :
    XRest w0 w' { A with vn := v' } { x with net := net' } := by
  obtain ⟨es, c, hm⟩ := h.gt.mapObj
  refine ⟨own_other h.fr hc (fun z hz e => own_ne_own h.nt h.fr (by decide) e hz), own_other h.tt hc (fun z hz e => own_ne_own h.nt h.tt (by decide) e hz), hn, own_other h.ln hc (fun z hz e => own_ne_own h.nt h.ln (by decide) e hz), h.gt.kept hc (fun e => own_ne h.nt h.gt.cells (by decide) e) (fun e => own_ne_map h.nt hm e), h.lm, hc.below h.bel (fun z hz => own_base h.nt hz)⟩
theorem XAt.below (h : XAt w0 w xb A x) (hb : Below w.heap.size w w') : XAt w0 w' xb A x :=
  ⟨(hb.block xb (lt_of_block h.cells)).trans h.cells, h.rest.below hb, (hb.block A.fb h.fl.lt).trans h.fl, h.fu.kept (hb.block _ h.fu.lt), h.ne, h.lx, h.lf, h.lu⟩
theorem XCell.cs (h : XCell w xb A pf pu x) : w.cell? ⟨xb, 0, none⟩ = some A.vf ∧ w.cell? ⟨xb, 1, none⟩ = some A.vt ∧ w.cell? ⟨xb, 2, none⟩ = some (.pointer (some ⟨A.gb, 0, none⟩)) ∧ w.cell? ⟨xb, 3, none⟩ = some A.vn ∧
    w.cell? ⟨xb, 4, none⟩ = some (.int .i64 x.ep) ∧ w.cell? ⟨xb, 5, none⟩ = some (.int .i64 x.sq) ∧ w.cell? ⟨xb, 6, none⟩ = some (.int .u8 x.ask.k.toNat) ∧ w.cell? ⟨xb, 7, none⟩ = some (.int .i64 x.ask.e) ∧
    w.cell? ⟨xb, 8, none⟩ = some (.int .i64 x.ask.q) ∧ w.cell? ⟨xb, 9, none⟩ = some (.string (bs x.ask.d)) ∧ w.cell? ⟨xb, 10, none⟩ = some (.int .i64 x.age) ∧ w.cell? ⟨xb, 11, none⟩ = some pf ∧ w.cell? ⟨xb, 12, none⟩ = some A.vl ∧
    w.cell? ⟨xb, 13, none⟩ = some (.bool x.kn) ∧ w.cell? ⟨xb, 14, none⟩ = some pu ∧ w.cell? ⟨xb, 15, none⟩ = some (.bool x.dn) := by
  unfold XCell xcells at h
  simp [World.cell?, h]
theorem XCell.fz (h : XCell w xb A pf pu x) (k : Nat) : w.frozen? ⟨xb, k, none⟩ = false := by
  unfold XCell at h
  simp [World.frozen?, h]
theorem XCell.set (h : XCell w xb A pf pu x) (k : Nat) (u : Value) {A' : XA} {pf' pu' : Value} {x' : XS} (e : (xcells A pf pu x).setIfInBounds k u = xcells A' pf' pu' x') : XCell (w.setCell ⟨xb, k, none⟩ u) xb A' pf' pu' x' := by
  have := set_at (k := k) (u := u) h
  rw [e] at this
  exact this
theorem XCell.chg (w : World) (xb k : Nat) (u : Value) : Chg w (w.setCell ⟨xb, k, none⟩ u) (fun b => b = xb) := (Chg.refl w (fun b => b = xb)).set ⟨xb, k, none⟩ (.inl rfl) u
theorem XRest.xset (h : XRest w0 w A x) (hc : XCell w xb A pf pu x) (lo : w0.heap.size ≤ xb) (k : Nat) (u : Value) : XRest w0 (w.setCell ⟨xb, k, none⟩ u) A x :=
  h.at (XCell.chg w xb k u) hc (by decide) lo
/-- a cell is stored -/
theorem XAt.set (h : XAt w0 w xb A x) (k : Nat) (u : Value) {A' : XA} {x' : XS} (e : (xcells A (.pointer (some ⟨A.fb, 0, none⟩)) (.map (some A.ub)) x).setIfInBounds k u = xcells A' (.pointer (some ⟨A'.fb, 0, none⟩)) (.map (some A'.ub)) x')
    (ha : A'.fb = A.fb ∧ A'.ub = A.ub ∧ A'.mb = A.mb) (hx : x'.W = x.W ∧ x'.L = x.L ∧ x'.T = x.T ∧ x'.G = x.G ∧ x'.fu = x.fu) (hr : ∀ w2, XRest w0 w2 A x → XRest w0 w2 A' x') : XAt w0 (w.setCell ⟨xb, k, none⟩ u) xb A' x' := by
  obtain ⟨a1, a2, a4⟩ := ha
  obtain ⟨x1, x2, x3, x4, x5⟩ := hx
  have hc := XCell.chg w xb k u
  obtain ⟨es, c, hm⟩ := h.fu.isMap
  refine ⟨h.cells.set k u e, hr _ (h.rest.xset h.cells h.lx k u), ?_, ?_, by rw [a2, a4]; exact h.ne, h.lx, by rw [a1]; exact h.lf, by rw [a2]; exact h.lu⟩
  · rw [a1, x1, x2, x3, x4]
    exact (hc.block A.fb h.fl.lt (cells_ne h.fl h.cells (by decide))).trans h.fl
  · rw [a2, x5]
    exact h.fu.kept (hc.block A.ub h.fu.lt (fun e => cells_map h.cells hm e.symm))
end
end Go.Proofs.YtppkeophochgiaaGreatDoor
/- Contracts of a transfer: put, ask. -/
namespace Go.Proofs.YtppkeophochgiaaGreatDoor
open Go.RowKit
set_option linter.unusedVariables false

theorem infoPk : (Tryz.prog.info? 255).map (fun i => (i.zero, i.size, i.bytes)) = some (some (.agg #[.string ⟨#[]⟩, .bool false]), 2, 24) := by kernel_rfl
theorem slice_onePk {w : World} {b : Nat} {x y : Value} (h : w.heap[b]? = some (.cells #[x, y] 255 (0, 0))) : SliceIs w (.slice (some ⟨b, 0, none⟩) 1 1) 2 [x, y] :=
  .inr ⟨⟨b, 0, none⟩, 1, 1, rfl, Nat.le_refl _, by unfold maxLen; omega, rfl, fun i u hi => by
    match i, hi with
    | 0, hi => simp at hi; subst hi; simp [World.cell?, h, Addr.add]
    | 1, hi => simp at hi; subst hi; simp [World.cell?, h, Addr.add]⟩
theorem XS.put_yes {f : PFr} {x : XS} (h : frC f = 0) : x.put f = { x with net := x.net ++ [(frT f, false)] } := if_pos h
theorem XS.put_no {f : PFr} {x : XS} (h : frC f ≠ 0) : x.put f = x := if_neg h
section
variable {E : Nat → Addr} {w0 w : World} {xb : Nat} {A : XA} {x : XS}
/-- the net grown by a packet -/
theorem XAt.grow (h : XAt w0 w xb A x) {w' : World} {o : Obj} {v' : Value} {net' : List (List UInt8 × Bool)} (hg : (w.alloc o).grownBy w' A.vn.ownBlock) (hn : w'.ownsRow w0.heap.size 255 2 v' net'.length (pcells net')) :
    XAt w0 (w'.setCell ⟨xb, 3, none⟩ v') xb { A with vn := v' } { x with net := net' } := by
  have ha := h.below (wb_alloc w o)
  have hc : Chg (w.alloc o) w' (fun b => A.vn.ownBlock = some b) := ⟨hg.os, hg.tape, hg.output, hg.size, fun k hk hn => hg.block k hk (fun e => hn e.symm)⟩
  obtain ⟨es, c, hm⟩ := ha.fu.isMap
  have h1 : XCell w' xb A (.pointer (some ⟨A.fb, 0, none⟩)) (.map (some A.ub)) x := (hc.block xb (lt_of_block ha.cells) (own_ne ha.rest.nt ha.cells (by decide))).trans ha.cells
  have h2 : FlowAt w' A.fb x.W x.L x.T x.G := (hc.block A.fb ha.fl.lt (own_ne ha.rest.nt ha.fl (by decide))).trans ha.fl
  have h3 : FMapIs w' A.ub x.fu.length x.fu := ha.fu.kept (hc.block A.ub ha.fu.lt (own_ne_map ha.rest.nt hm))
  have hr := ha.rest.netAt hc hn
  have hc2 := XCell.chg w' xb 3 v'
  have hs : XCell (w'.setCell ⟨xb, 3, none⟩ v') xb { A with vn := v' } (.pointer (some ⟨A.fb, 0, none⟩)) (.map (some A.ub)) { x with net := net' } := h1.set 3 v' rfl
  obtain ⟨es2, c2, hm2⟩ := h3.isMap
  refine ⟨hs, hr.at hc2 h1 (by decide) h.lx, ?_, ?_, h.ne, h.lx, h.lf, h.lu⟩
  · exact (hc2.block A.fb h2.lt (cells_ne h2 h1 (by decide))).trans h2
  · exact h3.kept (hc2.block A.ub h3.lt (fun e => cells_map h1 hm2 e.symm))
theorem XAt.grow_cell (h : XAt w0 w xb A x) {w' : World} {o : Obj} (hg : (w.alloc o).grownBy w' A.vn.ownBlock) : w'.frozen? ⟨xb, 3, none⟩ = false ∧ w'.cell? ⟨xb, 3, none⟩ = some A.vn := by
  have ha := h.below (wb_alloc w o)
  have h1 : XCell w' xb A (.pointer (some ⟨A.fb, 0, none⟩)) (.map (some A.ub)) x := (hg.block xb (lt_of_block ha.cells) (fun e => own_ne ha.rest.nt ha.cells (by decide) e.symm)).trans ha.cells
  exact ⟨h1.fz 3, h1.cs.2.2.2.1⟩
set_option maxRecDepth 100000 in
set_option maxHeartbeats 6400000 in
theorem xput_any (f : PFr) (h : XAt w0 w xb A x) (hn : x.net.length ≤ 1000000000) (h2 : Has E w 2) (h4 : Has E w 4) :
    Calls Tryz.prog 192 #[.pointer (some ⟨xb, 0, none⟩), f.val] w fun e w' => e = .returned (.tuple #[]) ∧ ∃ A', XAt w0 w' xb A' (x.put f) := by
  obtain ⟨i0, hi, hs0, hs1, hs2⟩ := info_parts infoPk
  have B0 := Lib.hid (wb_alloc w (.cells #[.int .u8 f.k.toNat, .int .i64 f.e, .int .i64 f.q, .string (bs f.d)] 248))
  have EN := Lib.hid (fenc_any E f _ (h2.below B0.out) (h4.below B0.out))
  have HX := Lib.hid (h.below B0.out)
  rw [PFr.val_is] at EN ⊢
  by_cases hc : frC f = 0
  · rw [hc, ev_zero, encL_yes hc] at EN
    rw [XS.put_yes hc]
    clear h h2 h4 hc
    go_enter Tryz.func192, Tryz.ntmps192
    go_wp2_with fail
    refine EN.out.mono ?_
    rintro e w1 ⟨rfl, b1⟩
    have hx := HX.out.below b1
    obtain ⟨c0, c1, c2, c3, _⟩ := hx.cells.cs
    have fz := hx.cells.fz 3
    have HX1 := Lib.hid hx
    have HN1 : Hid (x.net.length + 1 ≤ maxLen) := by show _ ≤ _; unfold maxLen; omega
    have HN2 : Hid ((x.net.length + 1) * 24 ≤ 140737488355328) := by show _ ≤ _; omega
    have HS := Lib.hid hx.rest.bel.size
    have hO := hx.rest.nt
    obtain ⟨va, vc, hv⟩ := owns_slice hO
    rw [hv] at c3 hO
    have HO := Lib.hid hO
    have HV := Lib.hid hv
    clear hO hv
    clear EN HX b1 hx c0 c1 c2
    go_wp2_with (first | (at_builtin; refine wpList_append_is rfl (.tmp 17) (.tmp 20) 246 rfl w0.heap.size 255 i0 _ 2 24 Tryz.underlying246 hi hs0 hs1 hs2 rfl (by decide) _ x.net.length _ rfl (HO.out.alloc _) _ 1 [.string (bs (frT f)), .bool false] rfl (slice_onePk (heap_alloc_new _ _)) rfl (fun u hu => by simp at hu; rcases hu with rfl | rfl <;> rfl) HN1.out HN2.out (by have := HS.out; simp; omega) ?_; intro v' w5 hown5 hgrow _; have gc := HX1.out.grow_cell (by rw [HV.out]; exact hgrow); have f5 := gc.1; have k5 := gc.2; rw [HV.out] at k5; have HG5 := Lib.hid hgrow; have HO5 := Lib.hid hown5; clear gc hgrow; obtain ⟨vb, vd, rfl⟩ := owns_slice hown5; clear hown5))
    go_returns
    refine ⟨rfl, _, HX1.out.grow (net' := x.net ++ [(frT f, false)]) (by rw [HV.out]; exact HG5.out) ?_⟩
    rw [pcells_append, List.length_append]
    exact HO5.out
  · have HC := Lib.hid hc
    rw [XS.put_no hc]
    rw [ev_pos E hc] at EN
    clear h h2 h4 hc
    go_enter Tryz.func192, Tryz.ntmps192
    go_wp2_with fail
    refine EN.out.mono ?_
    rintro e w1 ⟨rfl, b1⟩
    have HX1 := Lib.hid (HX.out.below b1)
    clear EN b1
    go_wp2_with fail
    go_returns
    exact ⟨rfl, A, HX1.out⟩
end
end Go.Proofs.YtppkeophochgiaaGreatDoor
/- Contract of a transfer: ask. -/
namespace Go.Proofs.YtppkeophochgiaaGreatDoor
open Go.RowKit
set_option linter.unusedVariables false
section
variable {E : Nat → Addr} {w0 w : World} {xb : Nat} {A : XA} {x : XS}
theorem XAt.drew (h : XAt w0 w xb A x) : XAt w0 w.drew xb A x := h.below (Below.drew (Below.refl _ _))
/-- what is asked is laid -/
theorem XAt.asked (h : XAt w0 w xb A x) (f : PFr) : XAt w0 ((((w.setCell ⟨xb, 6, none⟩ (.int .u8 f.k.toNat)).setCell ⟨xb, 7, none⟩ (.int .i64 f.e)).setCell ⟨xb, 8, none⟩ (.int .i64 f.q)).setCell ⟨xb, 9, none⟩ (.string (bs f.d))) xb A { x with ask := f } := by
  have h1 := h.set 6 (.int .u8 f.k.toNat) (A' := A) (x' := { x with ask := { x.ask with k := f.k } }) rfl ⟨rfl, rfl, rfl⟩ ⟨rfl, rfl, rfl, rfl, rfl⟩ (fun w2 h => ⟨h.fr, h.tt, h.nt, h.ln, h.gt, h.lm, h.bel⟩)
  have h2 := h1.set 7 (.int .i64 f.e) (A' := A) (x' := { x with ask := { x.ask with k := f.k, e := f.e } }) rfl ⟨rfl, rfl, rfl⟩ ⟨rfl, rfl, rfl, rfl, rfl⟩ (fun w2 h => ⟨h.fr, h.tt, h.nt, h.ln, h.gt, h.lm, h.bel⟩)
  have h3 := h2.set 8 (.int .i64 f.q) (A' := A) (x' := { x with ask := { x.ask with k := f.k, e := f.e, q := f.q } }) rfl ⟨rfl, rfl, rfl⟩ ⟨rfl, rfl, rfl, rfl, rfl⟩ (fun w2 h => ⟨h.fr, h.tt, h.nt, h.ln, h.gt, h.lm, h.bel⟩)
  exact h3.set 9 (.string (bs f.d)) (A' := A) (x' := { x with ask := f }) rfl ⟨rfl, rfl, rfl⟩ ⟨rfl, rfl, rfl, rfl, rfl⟩ (fun w2 h => ⟨h.fr, h.tt, h.nt, h.ln, h.gt, h.lm, h.bel⟩)
set_option maxRecDepth 100000 in
set_option maxHeartbeats 6400000 in
theorem xask_any (k : UInt8) (d : List UInt8) (h : XAt w0 w xb A x) (hn : x.net.length ≤ 1000000000) (hq : x.sq < 65536) (h2 : Has E w0 2) (h4 : Has E w0 4) :
    Calls Tryz.prog 215 #[.pointer (some ⟨xb, 0, none⟩), .int .u8 k.toNat, .string (bs d)] w fun e w' => e = .returned (.tuple #[]) ∧ ∃ A', XAt w0 w' xb A' (x.asks k d) := by
  have HX := Lib.hid h
  obtain ⟨c0, c1, c2, c3, c4, c5, c6, c7, c8, c9, c10, c11, c12, c13, c14, c15⟩ := h.cells.cs
  have f6 := h.cells.fz 6
  have f7 := h.cells.fz 7
  have f8 := h.cells.fz 8
  have f9 := h.cells.fz 9
  have k6 : (w.cell? ⟨xb, 6, none⟩).isSome = true := by rw [c6]; rfl
  clear h c0 c1 c2 c3 c10 c11 c12 c13 c14 c15 k6
  go_enter Tryz.func215, Tryz.ntmps215
  go_wp2_with fail
  have X1 := (HX.out.asked ⟨k, x.ep, x.sq, d⟩).drew
  have S1 := And.intro X1.cells.cs.2.2.2.2.1 X1.cells.cs.2.2.2.2.2.1
  go_region_held3 (fun X => X.cell? ⟨xb, 4, none⟩ = some (.int .i64 x.ep) ∧ X.cell? ⟨xb, 5, none⟩ = some (.int .i64 x.sq)) (first | exact ⟨c4, c5⟩ | exact S1) (fail)
  clear S1
  generalize (((((w.setCell ⟨xb, 6, none⟩ (.int .u8 k.toNat)).setCell ⟨xb, 7, none⟩ (.int .i64 x.ep)).setCell ⟨xb, 8, none⟩ (.int .i64 x.sq)).setCell ⟨xb, 9, none⟩ (.string (bs d))).drew) = w1 at *
  have HX1 := Lib.hid X1
  clear c4 c5 c6 c7 c8 c9 f6 f7 f8 f9 X1
  obtain ⟨c0, c1, c2, c3, c4, c5, c6, c7, c8, c9, c10, c11, c12, c13, c14, c15⟩ := HX1.out.cells.cs
  have f5 := HX1.out.cells.fz 5
  have f10 := HX1.out.cells.fz 10
  have hw1 : IntKind.i64.wrap ((x.sq : Int) + 1) = (x.sq : Int) + 1 := IntWalk.i64_in _ (by omega)
  obtain ⟨m, hm⟩ : ∃ m : Nat, m = (x.sq + 1) % 65536 := ⟨_, rfl⟩
  have hm0 : (m : Int) < 65536 := by omega
  have hw3 : ((x.sq : Int) + 1) % 65536 = (m : Int) := by omega
  have hw4 : ((x.sq : Int) + 1).tmod 65536 = (m : Int) := by rw [Int.tmod_eq_emod_of_nonneg (by omega)]; exact hw3
  have hw5 : IntKind.i64.wrap (((x.sq : Int) + 1).tmod 65536) = (m : Int) := by rw [hw4]; exact IntWalk.i64_in _ (by omega)
  have HM := Lib.hid hm
  clear hm
  clear c0 c1 c2 c3 c11 c12 c13 c14 c15
  have X2 := HX1.out.set 5 (.int .i64 m) (A' := A) (x' := { x with ask := ⟨k, x.ep, x.sq, d⟩, sq := m }) rfl ⟨rfl, rfl, rfl⟩ ⟨rfl, rfl, rfl, rfl, rfl⟩ (fun w2 h => ⟨h.fr, h.tt, h.nt, h.ln, h.gt, h.lm, h.bel⟩)
  have X3 := X2.set 10 (.int .i64 (0 : Nat)) (A' := A) (x' := { x with ask := ⟨k, x.ep, x.sq, d⟩, sq := m, age := 0 }) rfl ⟨rfl, rfl, rfl⟩ ⟨rfl, rfl, rfl, rfl, rfl⟩ (fun w2 h => ⟨h.fr, h.tt, h.nt, h.ln, h.gt, h.lm, h.bel⟩)
  have PT := Lib.hid (xput_any (E := E) ⟨k, x.ep, x.sq, d⟩ X3 hn (h2.below X3.rest.bel) (h4.below X3.rest.bel))
  have HE : Hid (x.asks k d = XS.put ⟨k, x.ep, x.sq, d⟩ { x with ask := ⟨k, x.ep, x.sq, d⟩, sq := m, age := 0 }) := Lib.hid (by rw [HM.out]; rfl)
  rw [PFr.val_is] at PT
  clear X2 X3 HX HX1
  go_wp2_with fail
  refine PT.out.mono ?_
  rintro e w2 ⟨rfl, A', hA⟩
  have HA := Lib.hid hA
  clear hA PT
  go_wp2_with fail
  go_returns
  exact ⟨rfl, A', by rw [HE.out]; exact HA.out⟩
end
end Go.Proofs.YtppkeophochgiaaGreatDoor
