/- Contract of tape.Append. -/
import Derived.Test.YtomaojpldinmgaaDoorTapWrite
import Derived.Deep.RegionHeld3
namespace Go.Proofs.YtomaojpldinmgaaDoor
open Go.RowKit
set_option linter.unusedVariables false

attribute [local irreducible] recL
set_option maxRecDepth 100000 in
set_option maxHeartbeats 6400000 in
theorem tapp_any (E : Nat → Addr) (base db : Nat) (v : Value) (d : TP) (s : List UInt8) (w : World) (h : DiskAt w base db v d) (hw : LibW E w) (hs : s.length ≤ 1000000) (hb : d.b.length ≤ 100000000) (hB : Has E w 2) (hF : Has E w 8) (hO : Has E w 12) (hg12 : gOf 12 < base) (hbase : base ≤ w.heap.size) :
    Calls Tryd.prog 8 #[.pointer (some ⟨db, 0, none⟩), .string (bs s)] w fun e w' => e = .returned (ev E (apC d s)) ∧ DiskTo w w' base db v (apT d s) := by
  have HD := Lib.hid h
  have RW := Lib.hid (fun (w' : World) (b : Below w.heap.size w w') => rec_any E s w' (hw.below b) (by omega))
  have CB := Lib.hid (fun (w' : World) (b : Below w.heap.size w w') => show w'.cell? ⟨0, 0, none⟩ = some (errv (E 2)) from hB.below b)
  have CF := Lib.hid (fun (w' : World) (b : Below w.heap.size w w') => show w'.cell? ⟨2, 0, none⟩ = some (errv (E 8)) from hF.below b)
  have HO := Lib.hid hO
  have hsz : (bs s).size = s.length := bs_size s
  obtain ⟨va, vc, hv⟩ := h.val
  have DD : Hid (∀ w' : World, Below w.heap.size w w' → (w'.cell? ⟨db, 0, none⟩ = some (.slice va d.b.length vc)) ∧ Below w.heap.size w w') := fun w' b => ⟨by rw [← hv]; exact (h.below b).cs.1.1, b⟩
  have BR := Below.refl w.heap.size w
  clear h hw hF hO
  by_cases h1 : 20000 < s.length
  · have e1 : apC d s = 2 := by unfold apC; rw [if_pos h1]
    have e2 : apT d s = d := by unfold apT; rw [if_pos h1]
    rw [e1, e2, ev_is E (by decide)]
    have hI : (20000 : Int) < s.length := by omega
    have cB := CB.out w BR
    clear e1 e2 hB
    go_enter Tryd.func8, Tryd.ntmps8
    go_wp2_with fail
    go_ret
    exact ⟨rfl, DiskTo.same HD.out BR⟩
  · have hI : ¬ (20000 : Int) < s.length := by omega
    have hrl := recL_le (s := s) (by omega)
    have hbw : IntKind.i64.wrap (1048576 - (d.b.length : Int)) = 1048576 - (d.b.length : Int) := IntWalk.i64_in _ (by omega)
    have hrs : (bs (recL s)).size = (recL s).length := bs_size _
    have DW := Lib.hid (fun (w' : World) (b : Below w.heap.size w w') => dwrite_any E base db v d (recL s) w' (HD.out.below b) (by omega) (by omega) (HO.out.below b) hg12 (Nat.le_trans hbase b.size))
    have S0 := DD.out w BR
    by_cases h2 : 1048576 < d.b.length + (recL s).length
    · have e1 : apC d s = 8 := by unfold apC; rw [if_neg h1, if_pos h2]
      have e2 : apT d s = d := by unfold apT; rw [if_neg h1, if_pos h2]
      rw [e1, e2, ev_is E (by decide)]
      have hJ : 1048576 - (d.b.length : Int) < (recL s).length := by omega
      clear e1 e2 hB DW
      generalize recL s = R at *
      go_enter Tryd.func8, Tryd.ntmps8
      go_wp2_with fail
      go_region_held3 (fun w' => (w'.cell? ⟨db, 0, none⟩ = some (.slice va d.b.length vc)) ∧ Below w.heap.size w w') (first | assumption | exact S0 | exact DD.out _ (by assumption) | exact DD.out _ (Below.drew BR))
        (first
        | (go_at_call 27; (with_reducible refine (RW.out _ ?_).mono ?_); (first | assumption | exact Below.drew BR); rintro e v1 ⟨rfl, b1⟩; have bel1 := below_trans' (by first | assumption | exact Below.drew BR) b1; have S1 := DD.out _ bel1))
      all_goals
        have cF := CF.out _ (by assumption)
        go_wp2_with fail
        go_ret
        exact ⟨rfl, DiskTo.same HD.out (by assumption)⟩
    · have e1 : apC d s = wrC d (recL s) := by unfold apC; rw [if_neg h1, if_neg h2]
      have e2 : apT d s = wrT d (recL s) := by unfold apT; rw [if_neg h1, if_neg h2]
      rw [e1, e2]
      have hJ : ¬ 1048576 - (d.b.length : Int) < (recL s).length := by omega
      clear e1 e2 hB
      generalize recL s = R at *
      go_enter Tryd.func8, Tryd.ntmps8
      go_wp2_with fail
      go_region_held3 (fun w' => (w'.cell? ⟨db, 0, none⟩ = some (.slice va d.b.length vc)) ∧ Below w.heap.size w w') (first | assumption | exact S0 | exact DD.out _ (by assumption) | exact DD.out _ (Below.drew BR))
        (first
        | (go_at_call 27; (with_reducible refine (RW.out _ ?_).mono ?_); (first | assumption | exact Below.drew BR); rintro e v1 ⟨rfl, b1⟩; have bel1 := below_trans' (by first | assumption | exact Below.drew BR) b1; have S1 := DD.out _ bel1))
      all_goals
        have HB1 : Hid (Below w.heap.size w _) := (by assumption)
        go_wp2_with fail
        refine (RW.out _ HB1.out).mono ?_
        rintro e v2 ⟨rfl, b2⟩
        have bel2 := Lib.hid (below_trans' HB1.out b2)
        clear b2
        go_wp2_with fail
        refine (DW.out _ bel2.out).mono ?_
        rintro e v3 ⟨rfl, h3⟩
        go_wp2_with fail
        go_ret
        refine ⟨rfl, (DiskTo.same HD.out bel2.out).trans fun v' hv' => ?_⟩
        have e := hv'.cells
        rw [(HD.out.below bel2.out).cells] at e
        obtain rfl : v = v' := by simpa using e
        exact h3
end Go.Proofs.YtomaojpldinmgaaDoor
