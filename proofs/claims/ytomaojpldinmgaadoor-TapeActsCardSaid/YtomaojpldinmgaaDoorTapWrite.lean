/- Contracts of tape's write, record, Append. -/
import Derived.Test.YtomaojpldinmgaaDoorTapDisk
import Derived.Test.YtomaojpldinmgaaDoorLibW
import Derived.Test.YtomaojpldinmgaaDoorAids
import Derived.Outline
namespace Go.Proofs.YtomaojpldinmgaaDoor
open Go.RowKit
set_option linter.unusedVariables false

theorem strC (l : List UInt8) (s : ByteArray) : l.map bv ++ Lib.strCells s = (l ++ s.data.toList).map bv := by
  rw [← bs_of s, strCells_bs, bs_list, List.map_append]
/-- a store into a disk's field: what a walk reads -/
theorem DiskAt.grownc {w w1 : World} {base db : Nat} {v : Value} {d : TP} (h : DiskAt w base db v d) (hg : w.grownBy w1 v.ownBlock) : w1.cell? ⟨db, 0, none⟩ = some v ∧ w1.frozen? ⟨db, 0, none⟩ = false := by
  have hcell : w1.heap[db]? = some (.cells #[v, .bool d.off, .int .i64 d.cut] 63 (0, 0)) := (hg.block db h.lt (fun e => h.ne e.symm)).trans h.cells
  exact ⟨by simp [World.cell?, hcell], by simp [World.frozen?, hcell]⟩
set_option maxRecDepth 100000 in
set_option maxHeartbeats 6400000 in
theorem dwrite_any (E : Nat → Addr) (base db : Nat) (v : Value) (d : TP) (s : List UInt8) (w : World) (h : DiskAt w base db v d) (hs : s.length ≤ 1000000000) (hb : d.b.length ≤ 1000000000) (hO : Has E w 12) (hg12 : gOf 12 < base) (hbase : base ≤ w.heap.size) :
    Calls Tryd.prog 28 #[.pointer (some ⟨db, 0, none⟩), .string (bs s)] w fun e w' => e = .returned (ev E (wrC d s)) ∧ DiskTo w w' base db v (wrT d s) := by
  obtain ⟨⟨c0, c1, c2⟩, cf⟩ := h.cs
  have f0 := cf 0
  have f1 := cf 1
  have f2 := cf 2
  have cO : w.cell? ⟨3, 0, none⟩ = some (errv (E 12)) := hO
  have HD := Lib.hid h
  have HBL := Lib.hid hb
  have hcut := h.cut
  have hdl := h.lt
  obtain ⟨va, vc, hv⟩ := h.val
  obtain ⟨i0, hi, hz0, hz1, hz2⟩ := info_parts infoU8
  have hsz : (bs s).size = s.length := bs_size s
  clear h hO cf
  cases ho : d.off with
  | true =>
    have e1 : wrC d s = 12 := by unfold wrC; rw [if_pos ho]
    have e2 : wrT d s = d := by unfold wrT; rw [if_pos ho]
    rw [e1, e2, ev_is E (by decide)]
    rw [ho] at c1
    clear e1 e2 ho
    go_enter Tryd.func28, Tryd.ntmps28
    go_wp2_with fail
    go_ret
    exact ⟨rfl, DiskTo.same HD.out (Below.refl _ _)⟩
  | false =>
    rw [ho] at c1
    by_cases hc : 0 ≤ d.cut ∧ d.cut < s.length
    · obtain ⟨hc1, hc2⟩ := hc
      have e1 : wrC d s = 12 := by unfold wrC; rw [if_neg (by simp [ho]), if_pos ⟨hc1, hc2⟩]
      have e2 : wrT d s = ⟨d.b ++ s.take d.cut.toNat, true, d.cut⟩ := by unfold wrT; rw [if_neg (by simp [ho]), if_pos ⟨hc1, hc2⟩]
      rw [e1, e2, ev_is E (by decide)]
      clear e1 e2
      obtain ⟨k, hk⟩ := Int.eq_ofNat_of_zero_le hc1
      rw [hk] at c2 hc2
      have hkI : (k : Int) < (bs s).size := by omega
      have hk0 : (0 : Int) ≤ k := by omega
      have hkl : (k : Int) ≤ s.length := by omega
      have hklN : k ≤ s.length := by omega
      have E1 : (bs s).extract 0 k = bs (s.take k) := by rw [bs_take, bs_list]
      have e3 : d.cut.toNat = k := by omega
      have HK := Lib.hid hk
      have OWN := Lib.hid HD.out.buf
      have HN1 : Hid ((d.b.map bv).length + (bs (s.take k)).size ≤ 140737488355328) := by show _ ≤ _; rw [List.length_map, bs_size, List.length_take]; omega
      have TAIL := Lib.hid (fun (w1 : World) (v' : Value) (hb' : BufIs w1 base 5 v' (d.b.map bv ++ Lib.strCells (bs (s.take k)))) (hg : w.grownBy w1 v.ownBlock) (ha : v'.ownBlock = v.ownBlock ∨ v'.ownBlock = some w.heap.size) => show DiskTo w ((w1.setCell ⟨db, 0, none⟩ v').setCell ⟨db, 1, none⟩ (.bool true)) base db v ⟨d.b ++ s.take k, true, d.cut⟩ from by
        rw [strC, bs_list] at hb'
        exact (HD.out.setbuf hb' hg ha).trans fun v2 h2 => DiskTo.of (h2.off true).1 (h2.off true).2)
      have C0 := Lib.hid (fun (w1 : World) (hg : w.grownBy w1 v.ownBlock) => HD.out.grownc hg)
      have C1 := Lib.hid (fun (w1 : World) (v' : Value) (hg : w.grownBy w1 v.ownBlock) => show (w1.setCell ⟨db, 0, none⟩ v').cell? ⟨db, 1, none⟩ = some (.bool false) ∧ (w1.setCell ⟨db, 0, none⟩ v').frozen? ⟨db, 1, none⟩ = false from by
        have hcell := (hg.block db HD.out.lt (fun e => HD.out.ne e.symm)).trans HD.out.cells
        have h2 := set_at (k := 0) (u := v') hcell
        exact ⟨by simp [World.cell?, h2, ho], by simp [World.frozen?, h2]⟩)
      have CO := Lib.hid (fun (w1 : World) (v' x : Value) (hg : w.grownBy w1 v.ownBlock) => show ((w1.setCell ⟨db, 0, none⟩ v').setCell ⟨db, 1, none⟩ x).cell? ⟨3, 0, none⟩ = some (errv (E 12)) from by
        have n1 : 3 ≠ db := by have := HD.out.lo; have : gOf 12 = 3 := rfl; omega
        have n2 : v.ownBlock ≠ some 3 := fun e => by have := (HD.out.buf.at e).1; have : gOf 12 = 3 := rfl; omega
        rw [World.cell?_setCell_other _ _ _ _ (fun e => n1 (congrArg Addr.block e).symm), World.cell?_setCell_other _ _ _ _ (fun e => n1 (congrArg Addr.block e).symm)]
        have h1 := hg.block 3 (World.block_lt_of_cell? w _ cO) (fun e => n2 e.symm)
        simp only [World.cell?, h1] at cO ⊢
        exact cO)
      rw [e3]
      clear hk ho hc1 e3 hb hsz
      subst hv
      go_enter Tryd.func28, Tryd.ntmps28
      go_wp2_with fail
      go_region_law (refine step_append_buf rfl (.tmp 28) (.tmp 34) 61 9 rfl base 5 i0 Tryd.underlying61 Tryd.underlying9 hi hz0 hz1 hz2 (.slice va d.b.length vc) (d.b.map bv) rfl OWN.out.drew (bs (s.take k)) rfl HN1.out hbase ?_; intro v' w5 hb5 hg5 ha5; have HB5 := Lib.hid hb5; have HG5 := Lib.hid (grown_undrew hg5); have HA5 := Lib.hid ha5; obtain ⟨c5, f5⟩ := C0.out w5 (grown_undrew hg5); obtain ⟨c6, f6⟩ := C1.out w5 v' (grown_undrew hg5); have c7 := CO.out w5 v' (.bool true) (grown_undrew hg5); obtain ⟨va', vn', vc', rfl⟩ := hb5.val3; clear hb5 hg5 ha5)
      all_goals
        go_wp2_with fail
        go_ret
        exact ⟨rfl, TAIL.out _ _ HB5.out HG5.out HA5.out⟩
    · have e1 : wrC d s = 0 := by unfold wrC; rw [if_neg (by simp [ho]), if_neg hc]
      have e2 : wrT d s = ⟨d.b ++ s, d.off, if 0 ≤ d.cut then d.cut - s.length else d.cut⟩ := by unfold wrT; rw [if_neg (by simp [ho]), if_neg hc]
      rw [e1, e2, ev_zero]
      clear e1 e2
      have HN1 : Hid ((d.b.map bv).length + (bs s).size ≤ 140737488355328) := by show _ ≤ _; rw [List.length_map, bs_size]; omega
      by_cases hc1 : 0 ≤ d.cut
      · rw [if_pos hc1]
        obtain ⟨T1, C1⟩ := HD.out.setcut (d.cut - s.length) (by omega)
        have hcI : ¬ d.cut < (s.length : Int) := by omega
        have hw1 : IntKind.i64.wrap (d.cut - s.length) = d.cut - s.length := IntWalk.i64_in _ (by omega)
        have TAIL := Lib.hid (fun (w1 : World) (v' : Value) (hb' : BufIs w1 base 5 v' (d.b.map bv ++ Lib.strCells (bs s))) (hg : (w.setCell ⟨db, 2, none⟩ (.int .i64 (d.cut - s.length))).grownBy w1 v.ownBlock) (ha : v'.ownBlock = v.ownBlock ∨ v'.ownBlock = some (w.setCell ⟨db, 2, none⟩ (.int .i64 (d.cut - s.length))).heap.size) => show DiskTo w (w1.setCell ⟨db, 0, none⟩ v') base db v ⟨d.b ++ s, d.off, d.cut - s.length⟩ from by
          rw [strC, bs_list] at hb'
          exact (DiskTo.of T1 C1).trans (fun v2 h2 => by
            have e := h2.cells
            rw [T1.cells] at e
            obtain rfl : v = v2 := by simpa using e
            exact h2.setbuf hb' hg ha))
        have OWN := Lib.hid T1.buf
        have C0 := Lib.hid (fun (w1 : World) (hg : (w.setCell ⟨db, 2, none⟩ (.int .i64 (d.cut - s.length))).grownBy w1 v.ownBlock) => T1.grownc hg)
        have hb2 : base ≤ (w.setCell ⟨db, 2, none⟩ (.int .i64 (d.cut - s.length))).heap.size := by simpa [World.setCell] using hbase
        generalize d.cut = c at *
        clear T1 C1 hc ho
        subst hv
        go_enter Tryd.func28, Tryd.ntmps28
        go_wp2_with (at_builtin; refine wpList_append_buf rfl _ _ 61 9 rfl base 5 i0 Tryd.underlying61 Tryd.underlying9 hi hz0 hz1 hz2 (.slice va d.b.length vc) (d.b.map bv) rfl OWN.out (bs s) rfl HN1.out hb2 ?_; intro v' w5 hb5 hg5 ha5; have HB5 := Lib.hid hb5; have HG5 := Lib.hid hg5; have HA5 := Lib.hid ha5; obtain ⟨c5, f5⟩ := C0.out w5 hg5; obtain ⟨va', vn', vc', rfl⟩ := hb5.val3; clear hb5 hg5 ha5)
        go_ret
        exact ⟨rfl, TAIL.out _ _ HB5.out HG5.out HA5.out⟩
      · rw [if_neg hc1]
        have hcI : d.cut < 0 := by omega
        have TAIL := Lib.hid (fun (w1 : World) (v' : Value) (hb' : BufIs w1 base 5 v' (d.b.map bv ++ Lib.strCells (bs s))) (hg : w.grownBy w1 v.ownBlock) (ha : v'.ownBlock = v.ownBlock ∨ v'.ownBlock = some w.heap.size) => show DiskTo w (w1.setCell ⟨db, 0, none⟩ v') base db v ⟨d.b ++ s, d.off, d.cut⟩ from by
          rw [strC, bs_list] at hb'
          exact HD.out.setbuf hb' hg ha)
        have OWN := Lib.hid HD.out.buf
        have C0 := Lib.hid (fun (w1 : World) (hg : w.grownBy w1 v.ownBlock) => HD.out.grownc hg)
        generalize d.cut = c at *
        clear hc ho
        subst hv
        go_enter Tryd.func28, Tryd.ntmps28
        go_wp2_with (at_builtin; refine wpList_append_buf rfl _ _ 61 9 rfl base 5 i0 Tryd.underlying61 Tryd.underlying9 hi hz0 hz1 hz2 (.slice va d.b.length vc) (d.b.map bv) rfl OWN.out (bs s) rfl HN1.out hbase ?_; intro v' w5 hb5 hg5 ha5; have HB5 := Lib.hid hb5; have HG5 := Lib.hid hg5; have HA5 := Lib.hid ha5; obtain ⟨c5, f5⟩ := C0.out w5 hg5; obtain ⟨va', vn', vc', rfl⟩ := hb5.val3; clear hb5 hg5 ha5)
        go_ret
        exact ⟨rfl, TAIL.out _ _ HB5.out HG5.out HA5.out⟩
theorem rec_any (E : Nat → Addr) (s : List UInt8) (w : World) (hw : LibW E w) (hs : s.length ≤ 1000000000) :
    Calls Tryd.prog 27 #[.string (bs s)] w fun e w' => e = .returned (.string (bs (recL s))) ∧ Below w.heap.size w w' := by
  have HI := Lib.hid (itoa_any E s.length w hw (by omega))
  have hl20 := dec_len_le (n := s.length) (k := 18) (by omega)
  have h1 : ¬ 9223372036854775807 < (Lib.decDigits s.length).length + 1 := by omega
  have h2 : ¬ 9223372036854775807 < (Lib.decDigits s.length).length + 1 + s.length := by omega
  have h3 : ¬ 9223372036854775807 < (Lib.decDigits s.length).length + 1 + s.length + 2 := by omega
  clear hl20
  go_enter Tryd.func27, Tryd.ntmps27
  go_wp2_with fail
  refine HI.out.mono ?_
  rintro e w1 ⟨rfl, b1⟩
  go_wp2_with fail
  go_ret
  refine ⟨?_, b1⟩
  apply ret_string
  apply eq_bs
  simp [recL, bs_list]
end Go.Proofs.YtomaojpldinmgaaDoor
