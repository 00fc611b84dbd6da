/- Contract of tape.Recover. -/
import Derived.Test.YtomaojpldinmgaaDoorTapRead
namespace Go.Proofs.YtomaojpldinmgaaDoor
open Go.RowKit
set_option linter.unusedVariables false

set_option maxRecDepth 100000 in
theorem buf_cut {w : World} {base : Nat} {s : Option Addr} {n c : Nat} {xs : List Value} (h : BufIs w base 5 (.slice s n c) xs) (k : Nat) (hk : k ≤ xs.length) :
    (∀ w' : World, (Instr.slice 61 (.slice s n c) none (some (.int .i64 k)) (some (.int .i64 k))).run Tryd.prog w' = .ok (.slice s k k) w') ∧ BufIs w base 5 (.slice s k k) (xs.take k) := by
  have hu : Tryd.prog.underlying 61 = some (.slice (Tryd.prog.elem 61)) := by kernel_rfl
  have hz : ∀ w' : World, (sizeOf (Tryd.prog.elem 61)).run Tryd.prog w' = .ok 1 w' := fun w' => by kernel_rfl
  obtain ⟨a', c', hv⟩ := h.val
  cases hv
  have hkc : k ≤ c := by
    rcases h with ⟨h, rfl⟩ | ⟨g, cap, cur, fr, hv, _, _, _, h1, _⟩
    · cases h; simpa using hk
    · cases hv; omega
  refine ⟨fun w' => ?_, ?_⟩
  · rw [run_slice_hm w' 61 s xs.length c hu .i64 .i64 k k (by omega) (by omega) (by omega), hz]
    simp only [Result.andThen, sliced, Int.toNat_natCast, Nat.zero_mul, Nat.sub_zero]
    congr 2
    rcases s with _ | a
    · simp
    · split
      · rfl
      · obtain ⟨b, o, sp⟩ := a
        obtain ⟨_, ho, hs, _⟩ := h.cells rfl
        simp only at ho hs
        subst ho hs
        simp [Addr.add]
  · rcases s with _ | a
    · rcases h with ⟨h, rfl⟩ | ⟨g, cap, cur, fr, hv, _⟩
      · cases h
        obtain rfl : k = 0 := by simpa using hk
        exact .inl ⟨rfl, rfl⟩
      · cases hv
    · exact h.cut k hk
set_option maxRecDepth 100000 in
set_option maxHeartbeats 6400000 in
theorem trec_any (E : Nat → Addr) (base db : Nat) (v : Value) (d : TP) (w : World) (h : DiskAt w base db v d) (hw : ∀ w', Chg w w' (DFoot db v) → LibW E w') (hb : d.b.length ≤ 100000000) :
    Calls Tryd.prog 13 #[.pointer (some ⟨db, 0, none⟩)] w fun e w' => ∃ r, e = .returned (.tuple #[r, .nilIface]) ∧ w'.ownsRow w.heap.size 9 1 r (readL d.b).1.length (strV (readL d.b).1) ∧ DiskTo w w' base db v (rcT d) := by
  have ON := Lib.hid (don_any base db v d w h)
  have HD := Lib.hid h
  clear h
  go_enter Tryd.func13, Tryd.ntmps13
  go_wp2_with fail
  refine ON.out.mono ?_
  rintro e w1 ⟨rfl, v1, h1, hc1, ha1⟩
  have hs1 := hc1.size
  have RD := Lib.hid (read_any E d.b w1 (hw w1 hc1) (by omega))
  have hcv := run_bytes_buf h1.buf
  obtain ⟨c0, _, _⟩ := h1.cs.1
  obtain ⟨va, vc, rfl⟩ := h1.val
  have hl := readL_len d.b
  obtain ⟨hsl, HB⟩ := buf_cut h1.buf (readL d.b).2 (by rw [List.length_map]; exact hl)
  have H1 := Lib.hid h1
  have HB := Lib.hid HB
  have CC := Lib.hid (fun (w' : World) (b : Below w1.heap.size w1 w') => (h1.below b).cs)
  have T1 := Lib.hid (show DiskTo w w1 base db v (onT d) from ⟨_, h1, hc1, ha1⟩)
  clear h1 hc1 ha1 hl hw
  simp only [onT] at hcv hsl c0
  go_wp2_with fail
  refine RD.out.mono ?_
  rintro e w2 ⟨r, rfl, hown, b2⟩
  obtain ⟨⟨c0', _, _⟩, cf⟩ := CC.out w2 b2
  have f0 := cf 0
  have B2 := Lib.hid b2
  obtain ⟨ra, rc, rfl⟩ := owns_slice hown
  have HO := Lib.hid hown
  clear b2 cf c0 CC hown RD hcv
  simp only [onT] at c0'
  have T2 : Hid (DiskTo w (w2.setCell ⟨db, 0, none⟩ (.slice va (readL d.b).2 (readL d.b).2)) base db v (rcT d)) := by
    refine Lib.hid (T1.out.trans fun v' hv' => ?_)
    have e := hv'.cells
    rw [H1.out.cells] at e
    obtain rfl : _ = v' := by simpa using e
    have hk := hv'.below B2.out
    have := hk.setbuf (w1 := w2) (l := d.b.take (readL d.b).2) (v' := .slice va (readL d.b).2 (readL d.b).2) (by
      have := HB.out.below B2.out
      rwa [← List.map_take] at this) ⟨rfl, rfl, rfl, Nat.le_refl _, fun _ _ _ => rfl⟩ (.inl (by cases va <;> rfl))
    exact (DiskTo.same hv' B2.out).trans fun v2 h2 => by
      have e := h2.cells
      rw [hk.cells] at e
      obtain rfl : _ = v2 := by simpa using e
      exact this
  have HR : Hid ((w2.setCell ⟨db, 0, none⟩ (.slice va (readL d.b).2 (readL d.b).2)).ownsRow w.heap.size 9 1 (.slice ra (readL d.b).1.length rc) (readL d.b).1.length (strV (readL d.b).1)) := by
    refine Lib.hid (owns_mono' (ownsRow_setCell_below HO.out (a := ⟨db, 0, none⟩) ?_ _) hs1)
    show db < _
    have := HD.out.lt
    omega
  clear HO H1 HB T1 B2
  go_wp2_with fail
  go_ret2
  exact ⟨_, rfl, HR.out, T2.out⟩
end Go.Proofs.YtomaojpldinmgaaDoor
