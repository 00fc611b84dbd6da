/- Texts of one proof, one behind the other: Gate. -/
import Derived.Test.YtdpoalbbcmkceaaGreatDoorB33
import Derived.Test.YtdpoalbbcmkceaaGreatDoorB14
import Derived.Test.YtdpoalbbcmkceaaGreatDoorB03
/- Contracts of gates: New, may, Last, Admit, Open, Set. -/
namespace Go.Proofs.YtdpoalbbcmkceaaGreatDoor
open Go.RowKit
set_option linter.unusedVariables false

theorem GMapIs.len {w : World} {b n : Nat} {m : GM} (h : GMapIs w b n m) (ty : TypeId) : (Builtin.len_ #[75] ty #[.map (some b)]).run Tryz.prog w = .ok (.int .i64 (m.length : Nat)) w := by
  obtain ⟨D, h1, _, h3⟩ := h
  rw [h1.len Tryz.underlying75, h3]
structure GtAt (w : World) (gb mb n : Nat) (m : GM) : Prop where
  cells : w.heap[gb]? = some (.cells #[.map (some mb)] 77 (0, 0))
  map : GMapIs w mb n m
  ne : gb ≠ mb
theorem GtAt.kept {w w' : World} {gb mb n : Nat} {m : GM} {S : Nat → Prop} (h : GtAt w gb mb n m) (hc : Chg w w' S) (h1 : ¬ S gb) (h2 : ¬ S mb) : GtAt w' gb mb n m :=
  ⟨(hc.block gb (lt_of_block h.cells) h1).trans h.cells, h.map.kept (hc.block mb h.map.lt h2), h.ne⟩
theorem GtAt.below {w w' : World} {gb mb n : Nat} {m : GM} (h : GtAt w gb mb n m) (hb : Below w.heap.size w w') : GtAt w' gb mb n m := h.kept (Chg.of_below hb (fun _ => False)) (fun h => h) (fun h => h)
theorem GtAt.mono {w : World} {gb mb n n' : Nat} {m : GM} (h : GtAt w gb mb n m) (hn : n ≤ n') : GtAt w gb mb n' m := ⟨h.cells, h.map.mono hn, h.ne⟩
theorem GtAt.c0 {w : World} {gb mb n : Nat} {m : GM} (h : GtAt w gb mb n m) : w.cell? ⟨gb, 0, none⟩ = some (.map (some mb)) := by simp [World.cell?, h.cells]
theorem GtAt.store {w w1 : World} {gb mb n : Nat} {m m' : GM} (h : GtAt w gb mb n m) (hm : GMapIs w1 mb (n + 1) m') (ht : w.mapTurned w1 mb) : GtAt w1 gb mb (n + 1) m' ∧ Chg w w1 (fun x => x = mb) := by
  have hc := Chg.of_grown ht.grown
  exact ⟨⟨(hc.block gb (lt_of_block h.cells) h.ne).trans h.cells, hm, h.ne⟩, hc⟩
set_option maxRecDepth 100000 in
set_option maxHeartbeats 1600000 in
theorem gnew_any (w : World) : Calls Tryz.prog 21 #[] w fun e w' => ∃ gb mb, e = .returned (.pointer (some ⟨gb, 0, none⟩)) ∧ GtAt w' gb mb 0 [] ∧ Below w.heap.size w w' ∧ w.heap.size ≤ gb ∧ w.heap.size ≤ mb := by
  have M0 := Lib.hid (GMapIs.made w)
  have hmm := @run_makeMap Tryz.prog
  go_enter Tryz.func21, Tryz.ntmps21
  go_wp2_with fail
  go_ret
  have b1 := wb_alloc w (.map #[] 0)
  have hn := heap_alloc_new (w.alloc (.map #[] 0)) (.cells #[.map (some w.heap.size)] 77)
  rw [show (w.alloc (.map #[] 0)).heap.size = w.heap.size + 1 by simp] at hn
  refine ⟨_, w.heap.size, rfl, ⟨hn, ?_, ?_⟩, b1.alloc b1.size _, ?_, Nat.le_refl _⟩
  · exact M0.out.kept ((wb_alloc (w.alloc (.map #[] 0)) _).block _ (by simp))
  · simp
  · simp
attribute [local irreducible] mayC opC' opN opM stC stM stN adC glk gput nameB
section
variable {E : Nat → Addr} {gb mb n : Nat} {m : GM} {w : World}
set_option maxRecDepth 100000 in
set_option maxHeartbeats 3200000 in
theorem gmay_any (k : List UInt8) (h : GtAt w gb mb n m) (hk : k.length ≤ 1000000000) (h5 : Has E w 5) (h8 : Has E w 8) :
    Calls Tryz.prog 51 #[.pointer (some ⟨gb, 0, none⟩), .string (bs k)] w fun e w' => e = .returned (ev E (mayC m k)) ∧ Below w.heap.size w w' := by
  have NM := Lib.hid (fun w' => flname_any k w' (by unfold maxLen; omega))
  have E5 := Lib.hid (fun (w' : World) (b : Below w.heap.size w w') => show w'.cell? ⟨4, 0, none⟩ = some (errv (E 5)) from h5.below b)
  have E8 := Lib.hid (fun (w' : World) (b : Below w.heap.size w w') => show w'.cell? ⟨7, 0, none⟩ = some (errv (E 8)) from h8.below b)
  have C0 := Lib.hid (fun (w' : World) (b : Below w.heap.size w w') => (h.below b).c0)
  have LK := Lib.hid (fun (w' : World) (b : Below w.heap.size w w') => (h.below b).map.look (k := k) (by unfold maxLen; omega))
  have LN := Lib.hid (fun (w' : World) (b : Below w.heap.size w w') => (h.below b).map.len)
  clear h h5 h8
  by_cases hnm : nameB k = true
  · rw [hnm] at NM
    by_cases hf : glk m k = 0 ∧ 20 ≤ m.length
    · rw [mayC_full hnm hf, ev_is E (by decide)]
      have hz : (((glk m k : Nat) : Int) == 0) = true := by rw [beq_iff_eq]; omega
      have hlI : (20 : Int) ≤ m.length := by omega
      clear hf hnm E5
      generalize glk m k = z at *
      go_enter Tryz.func51, Tryz.ntmps51
      go_wp2_with fail
      refine (NM.out _).mono ?_
      rintro e w1 ⟨rfl, b1⟩
      have c0 := C0.out _ b1
      have lk := LK.out _ b1
      have ln := LN.out _ b1
      have c8 := E8.out _ b1
      clear C0 LK LN E8 NM
      go_wp2_with fail
      go_ret
      exact ⟨rfl, b1⟩
    · rw [mayC_ok hnm hf, ev_zero]
      have hor : ((((glk m k : Nat) : Int) == 0) = false) ∨ ((((glk m k : Nat) : Int) == 0) = true ∧ ¬ (20 : Int) ≤ m.length) := by
        by_cases hz : glk m k = 0
        · exact .inr ⟨by rw [beq_iff_eq]; omega, by omega⟩
        · exact .inl (by rw [beq_eq_false_iff_ne]; omega)
      clear hf hnm E5 E8
      generalize glk m k = z at *
      rcases hor with hz | ⟨hz, hl⟩
      all_goals
        go_enter Tryz.func51, Tryz.ntmps51
        go_wp2_with fail
        refine (NM.out _).mono ?_
        rintro e w1 ⟨rfl, b1⟩
        have c0 := C0.out _ b1
        have lk := LK.out _ b1
        have ln := LN.out _ b1
        clear C0 LK LN NM
        go_wp2_with fail
        go_ret
        exact ⟨rfl, b1⟩
  · have hnm' : nameB k = false := by simpa using hnm
    rw [hnm'] at NM
    rw [mayC_name hnm', ev_is E (by decide)]
    clear hnm hnm' C0 LK LN E8
    go_enter Tryz.func51, Tryz.ntmps51
    go_wp2_with fail
    refine (NM.out _).mono ?_
    rintro e w1 ⟨rfl, b1⟩
    have c5 := E5.out _ b1
    clear NM E5
    go_wp2_with fail
    go_ret
    exact ⟨rfl, b1⟩
theorem ad_none {k : List UInt8} {x : Int} (h : glk m k = 0) : adC m k x = 6 := by unfold adC; rw [if_pos h]
theorem ad_ok {k : List UInt8} {x : Int} (h : glk m k ≠ 0) (h2 : (glk m k : Int) = x) : adC m k x = 0 := by unfold adC; rw [if_neg h, if_pos h2]
theorem ad_stale {k : List UInt8} {x : Int} (h : glk m k ≠ 0) (h2 : (glk m k : Int) ≠ x) : adC m k x = 11 := by unfold adC; rw [if_neg h, if_neg h2]
set_option maxRecDepth 100000 in
set_option maxHeartbeats 3200000 in
theorem gadmit_any (k : List UInt8) (x : Int) (h : GtAt w gb mb n m) (hk : k.length ≤ 1000000000) (h6 : Has E w 6) (h11 : Has E w 11) :
    Calls Tryz.prog 69 #[.pointer (some ⟨gb, 0, none⟩), .string (bs k), .int .i64 x] w fun e w' => e = .returned (ev E (adC m k x)) ∧ w = w' := by
  have c0 := h.c0
  have lk := h.map.look (k := k) (by unfold maxLen; omega)
  have c6 : w.cell? ⟨5, 0, none⟩ = some (errv (E 6)) := h6
  have c11 : w.cell? ⟨10, 0, none⟩ = some (errv (E 11)) := h11
  clear h h6 h11
  by_cases h0 : glk m k = 0
  · rw [ad_none h0, ev_is E (by decide)]
    have hz : (((glk m k : Nat) : Int) == 0) = true := by rw [beq_iff_eq]; omega
    clear h0
    generalize glk m k = z at *
    go_enter Tryz.func69, Tryz.ntmps69
    go_wp2_with fail
    go_ret
    exact ⟨rfl, rfl⟩
  · have hz : (((glk m k : Nat) : Int) == 0) = false := by rw [beq_eq_false_iff_ne]; omega
    by_cases hx : (glk m k : Int) = x
    · rw [ad_ok h0 hx, ev_zero]
      have hq : (((glk m k : Nat) : Int) == x) = true := by rw [beq_iff_eq]; exact hx
      clear h0 hx
      generalize glk m k = z at *
      go_enter Tryz.func69, Tryz.ntmps69
      go_wp2_with fail
      go_ret
      exact ⟨rfl, rfl⟩
    · rw [ad_stale h0 hx, ev_is E (by decide)]
      have hq : (((glk m k : Nat) : Int) == x) = false := by rw [beq_eq_false_iff_ne]; exact hx
      clear h0 hx
      generalize glk m k = z at *
      go_enter Tryz.func69, Tryz.ntmps69
      go_wp2_with fail
      go_ret
      exact ⟨rfl, rfl⟩
set_option maxRecDepth 100000 in
set_option maxHeartbeats 6400000 in
theorem gopen_any (k : List UInt8) (h : GtAt w gb mb n m) (hk : k.length ≤ 1000000000) (hn : n < 1000000000) (h2 : Has E w 2) (h5 : Has E w 5) (h8 : Has E w 8) :
    Calls Tryz.prog 34 #[.pointer (some ⟨gb, 0, none⟩), .string (bs k)] w fun e w' => e = .returned (.tuple #[.int .i64 (opN m k : Nat), ev E (opC' m k)]) ∧ GtAt w' gb mb (n + 1) (opM m k) ∧ Chg w w' (fun x => x = mb) := by
  have MY := Lib.hid (gmay_any (E := E) k h hk h5 h8)
  have C0 := Lib.hid (fun (w' : World) (b : Below w.heap.size w w') => (h.below b).c0)
  have LK := Lib.hid (fun (w' : World) (b : Below w.heap.size w w') => (h.below b).map.look (k := k) (by unfold maxLen; omega))
  have E2 := Lib.hid (fun (w' : World) (b : Below w.heap.size w w') => show w'.cell? ⟨1, 0, none⟩ = some (errv (E 2)) from h2.below b)
  have HH := Lib.hid h
  clear h2 h5 h8 h
  by_cases hm : mayC m k = 0
  · rw [hm, ev_zero] at MY
    by_cases ht : 2147483648 ≤ glk m k
    · obtain ⟨e1, e2, e3⟩ := op_top hm ht
      rw [e1, e2, e3, ev_is E (by decide)]
      have htI : (2147483648 : Int) ≤ ((glk m k : Nat) : Int) := by omega
      clear e1 e2 e3 hm ht
      generalize glk m k = z at *
      go_enter Tryz.func34, Tryz.ntmps34
      go_wp2_with fail
      refine MY.out.mono ?_
      rintro e w1 ⟨rfl, b1⟩
      have c0 := C0.out _ b1
      have lk := LK.out _ b1
      have c2 := E2.out _ b1
      have B1 := Lib.hid b1
      clear b1 C0 LK E2 MY
      go_wp2_with fail
      go_quiet (fail)
      go_wp2_with fail
      go_ret2
      have bb := below_drewN B1.out ‹Nat›
      exact ⟨rfl, (HH.out.below (below_drewN B1.out _)).mono (by omega), Chg.of_below (below_drewN B1.out _) _⟩
    · obtain ⟨e1, e2, e3⟩ := op_ok hm ht
      rw [e1, e2, e3, ev_zero]
      have htI : ¬ (2147483648 : Int) ≤ ((glk m k : Nat) : Int) := by omega
      have ST := Lib.hid (fun (w' : World) (b : Below w.heap.size w w') => (HH.out.below b).map.store (k := k) (v := glk m k + 1) (by unfold maxLen; omega) (by omega) (by unfold maxLen; omega))
      have LK2 := Lib.hid (fun (w' : World) (hm' : GMapIs w' mb (n + 1) (gput m k (glk m k + 1))) => hm'.look (k := k) (by unfold maxLen; omega))
      rw [glk_same] at LK2
      clear e1 e2 e3 hm ht E2
      go_enter Tryz.func34, Tryz.ntmps34
      go_wp2_with fail
      refine MY.out.mono ?_
      rintro e w1 ⟨rfl, b1⟩
      have c0 := C0.out _ b1
      have lk := LK.out _ b1
      obtain ⟨w2, st, hm2, ht2⟩ := ST.out _ b1
      obtain ⟨g2, ch2⟩ := (HH.out.below b1).store hm2 ht2
      have c02 := g2.c0
      have lk2 := LK2.out _ hm2
      have G2 := Lib.hid g2
      have CH := Lib.hid ((Chg.of_below b1 (fun x => x = mb)).trans ch2 (fun _ _ h => h))
      clear b1 C0 LK MY ST LK2 hm2 ht2 g2 ch2
      rw [Int.natCast_add] at st
      replace st : (Instr.mapUpdate 75 (.map (some mb)) (.string (bs k)) (.int .i64 (((glk m k : Nat) : Int) + 1))).run Tryz.prog w1 = .ok () w2 := st
      have hz0 : (0 : Int) ≤ ((glk m k : Nat) : Int) := by omega
      generalize hz1 : glk m k + 1 = z1 at st lk2 G2
      have HZ1 := Lib.hid hz1
      clear hz1
      generalize ((glk m k : Nat) : Int) = z at *
      go_wp2_with fail
      go_ret2
      rcases HZ1.out with rfl
      exact ⟨rfl, G2.out, CH.out⟩
  · obtain ⟨e1, e2, e3⟩ := op_may (m := m) (k := k) hm
    rw [e1, e2, e3]
    rw [ev_pos E hm] at MY ⊢
    clear e1 e2 e3 C0 LK E2 hm
    generalize mayC m k = c at *
    go_enter Tryz.func34, Tryz.ntmps34
    go_wp2_with fail
    refine MY.out.mono ?_
    rintro e w1 ⟨rfl, b1⟩
    have B1 := Lib.hid b1
    clear b1 MY
    go_wp2_with fail
    go_ret2
    exact ⟨rfl, (HH.out.below B1.out).mono (by omega), Chg.of_below B1.out _⟩
end
end Go.Proofs.YtdpoalbbcmkceaaGreatDoor
