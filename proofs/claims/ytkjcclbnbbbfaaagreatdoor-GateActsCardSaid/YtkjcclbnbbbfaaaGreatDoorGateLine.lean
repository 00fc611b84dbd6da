/- Contracts of a gate's line, and of gate.Read. -/
import Derived.Test.YtkjcclbnbbbfaaaGreatDoorGate
import Derived.Test.YtkjcclbnbbbfaaaGreatDoorGateRdP
import Derived.Test.YtkjcclbnbbbfaaaGreatDoorTapOne
import Derived.Test.YtkjcclbnbbbfaaaGreatDoorFilChk
namespace Go.Proofs.YtkjcclbnbbbfaaaGreatDoor
open Go.RowKit
set_option linter.unusedVariables false

/-- no epoch is too late -/
def GLe (m : GM) : Prop := ∀ k, glk m k ≤ 2147483648
theorem GLe.nil : GLe [] := fun k => by simp [glk]
theorem GLe.put {m : GM} (h : GLe m) {k : List UInt8} {v : Nat} (hv : v ≤ 2147483648) : GLe (gput m k v) := fun k' => by
  by_cases e : k' = k
  · subst e; rw [glk_same]; exact hv
  · rw [glk_other m v e]; exact h k'
theorem GLe.set {m : GM} (h : GLe m) (k : List UInt8) {n : Nat} (hn : n ≤ 2147483648) : GLe (stM m k n) := by
  unfold stM
  split
  · refine h.put ?_
    unfold stN; split
    · simpa using hn
    · exact h k
  · exact h
theorem mayC_le (m : GM) (k : List UInt8) : mayC m k = 0 ∨ mayC m k = 5 ∨ mayC m k = 8 := by
  unfold mayC; (repeat' split) <;> simp
attribute [local irreducible] mayC stC stM stN glC glM glk gput nameB nmL cutC
set_option maxRecDepth 100000 in
set_option maxHeartbeats 6400000 in
theorem gline_any (E : Nat → Addr) (s last : List UInt8) (first : Bool) {gb mb n : Nat} {m : GM} {w : World} (h : GtAt w gb mb n m) (hz : GLe m) (hw : LibW E w) (hs : s.length ≤ 100000000) (hl : last.length ≤ 100000000) (hn : n < 1000000000)
    (h1 : Has E w 1) (h2 : Has E w 2) (h5 : Has E w 5) (h8 : Has E w 8) (h9 : Has E w 9) :
    Calls Tryz.prog 50 #[.pointer (some ⟨gb, 0, none⟩), .string (bs s), .string (bs last), .bool first] w fun e w' =>
      ∃ t m', e = .returned (.tuple #[.string (bs t), ev E (glC m s last first)]) ∧ (glC m s last first = 0 → t = cutA 32 s ∧ m' = glM m s) ∧ GtAt w' gb mb (n + 1) m' ∧ GLe m' ∧ Chg w w' (fun x => x = mb) := by
  have SC := Lib.hid (scut_any E 32 ⟨#[32]⟩ rfl s w (by omega) hw)
  have hcb := cutB_len 32 s
  have hca := cutA_len 32 s
  have NU := Lib.hid (fun (w' : World) (b : Below w.heap.size w w') => number_any E 10 (cutB 32 s) w' (hw.below b) (by decide) (by omega))
  have HGT := Lib.hid (fun (w' : World) (b : Below w.heap.size w w') => (h.below b).mono (Nat.le_succ n))
  have HG0 := Lib.hid (fun (w' : World) (b : Below w.heap.size w w') => h.below b)
  have HLE := Lib.hid hz
  have E1 := Lib.hid (fun (w' : World) (b : Below w.heap.size w w') => show w'.cell? ⟨3, 0, none⟩ = some (errv (E 1)) from h1.below b)
  have E2 := Lib.hid (fun (w' : World) (b : Below w.heap.size w w') => show w'.cell? ⟨0, 0, none⟩ = some (errv (E 2)) from h2.below b)
  have E5 := Lib.hid (fun (w' : World) (b : Below w.heap.size w w') => show w'.cell? ⟨6, 0, none⟩ = some (errv (E 5)) from h5.below b)
  have E9 := Lib.hid (fun (w' : World) (b : Below w.heap.size w w') => show w'.cell? ⟨9, 0, none⟩ = some (errv (E 9)) from h9.below b)
  have HH := Lib.hid (show Has E w 2 ∧ Has E w 5 ∧ Has E w 8 from ⟨h2, h5, h8⟩)
  clear h hz hw h1 h2 h5 h8 h9
  cases hc : cutC 32 s with
  | none =>
    have GL := Lib.hid (glC_cut (m := m) (last := last) (f := first) hc)
    rw [hc] at SC
    clear hc hca hcb E2 E5 E9 HH HG0
    go_enter Tryz.func50, Tryz.ntmps50
    go_wp2_with fail
    refine SC.out.mono ?_
    rintro e w1 ⟨rfl, b1⟩
    have NU1 := Lib.hid (NU.out _ b1)
    clear SC NU
    go_wp2_with fail
    refine NU1.out.mono ?_
    rintro e w2 ⟨⟨v, rfl, hv⟩, b2'⟩
    have b2 := below_trans' b1 b2'
    clear b1 b2' NU1
    have B2 := Lib.hid b2
    clear b2 hv
    have ce := E1.out _ B2.out
    go_wp2_with fail
    go_quiet (fail)
    go_wp2_with fail
    go_ret2
    have bb := below_drewN B2.out nq
    exact ⟨[], m, by rw [GL.out, ev_is E (by decide), bs_nil]; simp [go_sem], fun h => absurd h (by rw [GL.out]; decide), HGT.out _ bb, HLE.out, Chg.of_below bb _⟩
  | some p =>
    have eA : cutA 32 s = p.1 := by unfold cutA; rw [hc]
    have eB : cutB 32 s = p.2 := by unfold cutB; rw [hc]
    rw [eB] at NU hcb
    cases hd : nmL 10 p.2 with
    | none =>
      have GL := Lib.hid (glC_num (m := m) (last := last) (f := first) hc hd)
      rw [hc, eA, eB] at SC
      simp only [NumIs, hd] at NU
      clear hc hd hca hcb eA eB E2 E5 E9 HH HG0
      go_enter Tryz.func50, Tryz.ntmps50
      go_wp2_with fail
      refine SC.out.mono ?_
      rintro e w1 ⟨rfl, b1⟩
      have NU1 := Lib.hid (NU.out _ b1)
      clear SC NU
      go_wp2_with fail
      refine NU1.out.mono ?_
      rintro e w2 ⟨⟨v, rfl, hv⟩, b2'⟩
      have b2 := below_trans' b1 b2'
      clear b1 b2' NU1
      have B2 := Lib.hid b2
      clear b2 hv
      have ce := E1.out _ B2.out
      go_wp2_with fail
      go_quiet (fail)
      go_wp2_with fail
      go_ret2
      have bb := below_drewN B2.out nq
      exact ⟨[], m, by rw [GL.out, ev_is E (by decide), bs_nil]; simp [go_sem], fun h => absurd h (by rw [GL.out]; decide), HGT.out _ bb, HLE.out, Chg.of_below bb _⟩
    | some k =>
      have NM := Lib.hid (fun w' => flname_any (cutA 32 s) w' (by unfold maxLen; omega))
      by_cases hnm : nameB p.1 = true
      · rw [eA, hnm] at NM
        by_cases hbd : k < 1 ∨ 2147483648 < k
        · have GL := Lib.hid (glC_bound (m := m) (last := last) (f := first) hc hd hnm hbd)
          rw [hc, eA, eB] at SC
          simp only [NumIs, hd] at NU
          have hor : (k : Int) < 1 ∨ ¬ (k : Int) < 1 ∧ (2147483648 : Int) < k := by omega
          clear hc hca hcb eB E1 E5 E9 HH HG0 hbd hnm
          rcases hor with hI | ⟨hI, hJ⟩
          all_goals
            go_enter Tryz.func50, Tryz.ntmps50
            go_wp2_with fail
            refine SC.out.mono ?_
            rintro e w1 ⟨rfl, b1⟩
            have NU1 := Lib.hid (NU.out _ b1)
            clear SC NU
            go_wp2_with fail
            refine NU1.out.mono ?_
            rintro e w2 ⟨⟨v, rfl, hv⟩, b2'⟩
            have b2 := below_trans' b1 b2'
            clear b1 b2' NU1
            obtain rfl := hv k rfl
            have NM2 := Lib.hid (NM.out w2)
            clear NM hv
            go_wp2_with fail
            refine NM2.out.mono ?_
            rintro e w3 ⟨rfl, b3⟩
            have B2 := Lib.hid (below_trans' b2 b3)
            clear b2 b3 NM2
            have ce := E2.out _ B2.out
            go_wp2_with fail
            go_quiet (fail)
            go_wp2_with fail
            go_ret2
            have bb := below_drewN B2.out nq
            exact ⟨[], m, by rw [GL.out, ev_is E (by decide), bs_nil]; simp [go_sem], fun h => absurd h (by rw [GL.out]; decide), HGT.out _ bb, HLE.out, Chg.of_below bb _⟩
        · have hI : ¬ (k : Int) < 1 := by omega
          have hJ : ¬ (2147483648 : Int) < k := by omega
          by_cases hord : first = false ∧ ltL last p.1 = false
          · obtain ⟨rfl, hlt⟩ := hord
            have GL := Lib.hid (glC_order (m := m) (last := last) hc hd hnm hbd hlt)
            have hle : ∀ w, (binOp .leq 9 (.string (bs p.1)) (.string (bs last))).run Tryz.prog w = .ok (.bool true) w := fun w => by rw [run_leq, hlt]; rfl
            rw [hc, eA, eB] at SC
            simp only [NumIs, hd] at NU
            clear hc hca hcb eB E1 E5 E2 HH HG0 hbd hnm
            go_enter Tryz.func50, Tryz.ntmps50
            go_wp2_with fail
            refine SC.out.mono ?_
            rintro e w1 ⟨rfl, b1⟩
            have NU1 := Lib.hid (NU.out _ b1)
            clear SC NU
            go_wp2_with fail
            refine NU1.out.mono ?_
            rintro e w2 ⟨⟨v, rfl, hv⟩, b2'⟩
            have b2 := below_trans' b1 b2'
            clear b1 b2' NU1
            obtain rfl := hv k rfl
            have NM2 := Lib.hid (NM.out w2)
            clear NM hv
            go_wp2_with fail
            refine NM2.out.mono ?_
            rintro e w3 ⟨rfl, b3⟩
            have B2 := Lib.hid (below_trans' b2 b3)
            clear b2 b3 NM2
            have ce := E9.out _ B2.out
            go_wp2_with fail
            go_quiet (fail)
            go_wp2_with fail
            go_ret2
            have bb := below_drewN B2.out nq
            exact ⟨[], m, by rw [GL.out, ev_is E (by decide), bs_nil]; simp [go_sem], fun h => absurd h (by rw [GL.out]; decide), HGT.out _ bb, HLE.out, Chg.of_below bb _⟩
          · have GL := Lib.hid (glC_set (m := m) (last := last) (f := first) hc hd hnm hbd hord)
            have GM' := Lib.hid (glM_set (m := m) hc hd)
            have hkl : p.1.length ≤ 100000000 := by rw [← eA]; omega
            have ST := Lib.hid (fun (w' : World) (b : Below w.heap.size w w') => gset_any (E := E) p.1 (k : Int) (HG0.out w' b) (by omega) hn (HLE.out p.1) (HH.out.1.below b) (HH.out.2.1.below b) (HH.out.2.2.below b))
            have HL2 := Lib.hid (HLE.out.set p.1 (n := k) (by omega))
            have hor : first = true ∨ first = false ∧ ltL last p.1 = true := by
              cases first
              · exact .inr ⟨rfl, by simpa using hord⟩
              · exact .inl rfl
            rw [hc, eA, eB] at SC
            simp only [NumIs, hd] at NU
            rw [eA]
            clear hc hca hcb eB E1 E5 E2 E9 HH HG0 hbd hnm hord
            rcases hor with rfl | ⟨rfl, hlt⟩
            all_goals
              try have hle : ∀ w, (binOp .leq 9 (.string (bs p.1)) (.string (bs last))).run Tryz.prog w = .ok (.bool false) w := fun w => by rw [run_leq, hlt]; rfl
              try clear hlt
              go_enter Tryz.func50, Tryz.ntmps50
              go_wp2_with fail
              refine SC.out.mono ?_
              rintro e w1 ⟨rfl, b1⟩
              have NU1 := Lib.hid (NU.out _ b1)
              clear SC NU
              go_wp2_with fail
              refine NU1.out.mono ?_
              rintro e w2 ⟨⟨v, rfl, hv⟩, b2'⟩
              have b2 := below_trans' b1 b2'
              clear b1 b2' NU1
              obtain rfl := hv k rfl
              have NM2 := Lib.hid (NM.out w2)
              clear NM hv
              go_wp2_with fail
              refine NM2.out.mono ?_
              rintro e w3 ⟨rfl, b3⟩
              have b4 := below_trans' b2 b3
              have ST4 := Lib.hid (ST.out _ b4)
              have B4 := Lib.hid b4
              clear b2 b3 b4 NM2 ST
              go_wp2_with fail
              refine ST4.out.mono ?_
              rintro e w5 ⟨rfl, g5, c5⟩
              have G5 := Lib.hid g5
              have C5 := Lib.hid c5
              clear g5 c5 ST4
              go_wp2_with fail
              go_ret2
              exact ⟨p.1, _, by rw [GL.out]; simp [go_sem], fun _ => ⟨rfl, GM'.out.symm⟩, G5.out, HL2.out, (Chg.of_below B4.out _).trans C5.out (fun _ _ h => h)⟩
      · have hnm' : nameB p.1 = false := by simpa using hnm
        rw [eA, hnm'] at NM
        have GL := Lib.hid (glC_name (m := m) (last := last) (f := first) hc hd hnm')
        rw [hc, eA, eB] at SC
        simp only [NumIs, hd] at NU
        clear hc hca hcb eB E1 E2 E9 HH HG0 hnm hnm'
        go_enter Tryz.func50, Tryz.ntmps50
        go_wp2_with fail
        refine SC.out.mono ?_
        rintro e w1 ⟨rfl, b1⟩
        have NU1 := Lib.hid (NU.out _ b1)
        clear SC NU
        go_wp2_with fail
        refine NU1.out.mono ?_
        rintro e w2 ⟨⟨v, rfl, hv⟩, b2'⟩
        have b2 := below_trans' b1 b2'
        clear b1 b2' NU1
        obtain rfl := hv k rfl
        have NM2 := Lib.hid (NM.out w2)
        clear NM hv
        go_wp2_with fail
        refine NM2.out.mono ?_
        rintro e w3 ⟨rfl, b3⟩
        have B2 := Lib.hid (below_trans' b2 b3)
        clear b2 b3 NM2
        have ce := E5.out _ B2.out
        go_wp2_with fail
        go_quiet (fail)
        go_wp2_with fail
        go_ret2
        have bb := below_drewN B2.out nq
        exact ⟨[], m, by rw [GL.out, ev_is E (by decide), bs_nil]; simp [go_sem], fun h => absurd h (by rw [GL.out]; decide), HGT.out _ bb, HLE.out, Chg.of_below bb _⟩
end Go.Proofs.YtkjcclbnbbbfaaaGreatDoor
/- Contract of gate.Read. -/
namespace Go.Proofs.YtkjcclbnbbbfaaaGreatDoor
open Go.RowKit
set_option linter.unusedVariables false

theorem isEmpty_no {r : List UInt8} (h : r ≠ []) : (bs r).toList.isEmpty = false := by
  rw [bs_tl']
  cases r with
  | nil => exact absurd rfl h
  | cons c r => rfl
attribute [local irreducible] rdg glC glM gput glk nameB nmL cutC
set_option maxRecDepth 100000 in
set_option maxHeartbeats 6400000 in
theorem gread_any (E : Nat → Addr) (s : List UInt8) (w : World) (hw : LibW E w) (hs : s.length ≤ 1000000)
    (h1 : Has E w 1) (h2 : Has E w 2) (h5 : Has E w 5) (h8 : Has E w 8) (h9 : Has E w 9) :
    Calls Tryz.prog 27 #[.string (bs s)] w fun e w' => ∃ pv v, e = .returned (.tuple #[pv, v]) ∧ FErr E w' v (readG s).2.1 (readG s).2.2 ∧
      ((readG s).2.1 = 0 → ∃ gb mb n, pv = .pointer (some ⟨gb, 0, none⟩) ∧ GtAt w' gb mb n (readG s).1 ∧ n ≤ s.length ∧ w.heap.size ≤ gb ∧ w.heap.size ≤ mb) ∧ ((readG s).2.1 ≠ 0 → pv = .pointer none) ∧ Below w.heap.size w w' := by
  have HW := Lib.hid hw
  have H1 := Lib.hid h1
  have HH := Lib.hid (show Has E w 2 ∧ Has E w 5 ∧ Has E w 8 ∧ Has E w 9 from ⟨h2, h5, h8, h9⟩)
  have E1 := Lib.hid (fun (w' : World) (b : Below w.heap.size w w') => show w'.cell? ⟨3, 0, none⟩ = some (errv (E 1)) from h1.below b)
  clear hw h1 h2 h5 h8 h9
  go_enter Tryz.func27, Tryz.ntmps27
  go_wp2_with fail
  refine (gnew_any _).mono ?_
  rintro e w1 ⟨gb, mb, rfl, g1, b1, lo1, lo2⟩
  have G1 := Lib.hid g1
  have B1 := Lib.hid b1
  clear g1 b1
  go_wp2_with fail
  go_loopw [5, 6, 0, 7, 8, 9, 10] (fun last i sv _ _ _ _ wr => ∃ (k f : Nat) (la r : List UInt8) (m : GM), i = .int .i64 k ∧ last = .string (bs la) ∧ sv = .string (bs r) ∧ k + r.length ≤ s.length ∧ la.length ≤ s.length ∧ r.length + 1 ≤ f ∧ readG s = rdg f k la m r ∧ GtAt wr gb mb k m ∧ GLe m ∧ Below w.heap.size w wr) (fun _ i _ _ _ _ _ _ => s.length - (intOf i).toNat)
  case atStart => exact ⟨0, s.length + 1, [], s, [], rfl, by rw [bs_nil], rfl, by omega, by simp, by omega, rfl, G1.out, GLe.nil, B1.out⟩
  case round =>
    clear G1 B1
    obtain ⟨k, f, la, r, m, rfl, rfl, rfl, hkr, hla, hf, hrd, gt, gle, bel⟩ := hrel
    have GT := Lib.hid gt
    have GL := Lib.hid gle
    have BL := Lib.hid bel
    obtain ⟨f, rfl⟩ : ∃ f', f = f' + 1 := ⟨f - 1, by omega⟩
    by_cases hr : r = []
    · subst hr
      have RD := Lib.hid (hrd.trans (rdg_end _ _ _ _))
      rw [bs_nil]
      clear hrd gt gle bel
      go_wp2_with fail
      go_ret2
      rw [RD.out]
      exact ⟨_, _, rfl, FErr.nil _ _, fun _ => ⟨gb, mb, k, rfl, GT.out, by omega, lo1, lo2⟩, fun h => absurd rfl h, BL.out⟩
    · have hne := isEmpty_no hr
      have SC := Lib.hid (scut_any E 10 ⟨#[10]⟩ rfl r wr (by omega) (HW.out.below bel))
      have c1 := E1.out _ bel
      have hi64 : IntKind.i64.wrap ((k : Int) + 1) = k + 1 := IntWalk.i64_in _ (by omega)
      have hrl : 1 ≤ r.length := by cases r with
        | nil => exact absurd rfl hr
        | cons c r => simp
      cases hc : cutC 10 r with
      | none =>
        have RD := Lib.hid (hrd.trans (rdg_none hr hc))
        rw [hc] at SC
        clear hrd gt gle bel hc c1
        go_wp2_with fail
        refine SC.out.mono ?_
        rintro e w2 ⟨rfl, b2⟩
        have B2 := Lib.hid (below_trans' BL.out b2)
        have c1 := E1.out _ B2.out
        unfold errv at c1
        clear b2 SC
        go_wp2_with fail
        go_ret2
        rw [RD.out]
        refine ⟨_, _, rfl, ?_, fun h => absurd h (by simp), fun _ => rfl, B2.out.alloc B2.out.size _⟩
        exact FErr.new E w2 1 (by decide) k _ rfl (1, (k : Int)) rfl
      | some p =>
        have eA : cutA 10 r = p.1 := by unfold cutA; rw [hc]
        have eB : cutB 10 r = p.2 := by unfold cutB; rw [hc]
        obtain ⟨l2, l1⟩ := cut10_len hc
        rw [hc, eA, eB] at SC
        have LN := Lib.hid (fun (w' : World) (b : Below wr.heap.size wr w') => gline_any E p.1 la (k == 0) (GT.out.below b) GL.out (HW.out.below (below_trans' BL.out b)) (by omega) (by omega) (by omega) (H1.out.below (below_trans' BL.out b)) (HH.out.1.below (below_trans' BL.out b)) (HH.out.2.1.below (below_trans' BL.out b)) (HH.out.2.2.1.below (below_trans' BL.out b)) (HH.out.2.2.2.below (below_trans' BL.out b)))
        have hkz : (((k : Int) == 0) : Bool) = (k == 0) := by
          by_cases h : k = 0
          · subst h; rfl
          · rw [beq_eq_false_iff_ne.2 h, beq_eq_false_iff_ne.2 (by omega)]
        have hca := cutA_len 32 p.1
        by_cases hg : glC m p.1 la (k == 0) = 0
        · have RD := Lib.hid (hrd.trans (rdg_step hr hc hg))
          have HG := Lib.hid hg
          clear hrd gt gle bel hc c1 hg eA eB
          go_wp2_with fail
          refine SC.out.mono ?_
          rintro e w2 ⟨rfl, b2⟩
          have c1 := E1.out _ (below_trans' BL.out b2)
          have LN2 := Lib.hid (LN.out _ b2)
          have B2 := Lib.hid b2
          clear b2 SC LN
          go_wp2_with fail
          refine LN2.out.mono ?_
          rintro e w3 ⟨t, m', rfl, ht, g3, gl3, c3⟩
          rw [HG.out, ev_zero]
          obtain ⟨rfl, rfl⟩ := ht HG.out
          have KK := Lib.hid (show (cutA 32 p.1).length ≤ s.length ∧ k + 1 + p.2.length ≤ s.length ∧ p.2.length + 1 ≤ f by omega)
          have B3 := Lib.hid (c3.below (below_trans' BL.out B2.out) (fun x hx => by subst hx; exact lo2))
          have G3 := Lib.hid g3
          have GL3 := Lib.hid gl3
          clear g3 gl3 c3 LN2 ht B2
          go_wp2_with fail
          go_roundw
          case rel => exact ⟨k + 1, f, _, p.2, _, by go_num, rfl, rfl, KK.out.2.1, KK.out.1, KK.out.2.2, RD.out, G3.out, GL3.out, B3.out⟩
          case measure => simp [intOf]; omega
        · have RD := Lib.hid (hrd.trans (rdg_bad hr hc hg))
          have HG := Lib.hid hg
          clear hrd gt gle bel hc c1 hg eA eB
          go_wp2_with fail
          refine SC.out.mono ?_
          rintro e w2 ⟨rfl, b2⟩
          have c1 := E1.out _ (below_trans' BL.out b2)
          have LN2 := Lib.hid (LN.out _ b2)
          have B2 := Lib.hid b2
          clear b2 SC LN
          go_wp2_with fail
          refine LN2.out.mono ?_
          rintro e w3 ⟨t, m', rfl, ht, g3, gl3, c3⟩
          have B3 := Lib.hid (c3.below (below_trans' BL.out B2.out) (fun x hx => by subst hx; exact lo2))
          rw [ev_pos E HG.out]
          clear g3 gl3 c3 LN2 ht B2
          go_wp2_with fail
          go_ret2
          rw [RD.out]
          refine ⟨_, _, rfl, ?_, fun h => absurd h HG.out, fun _ => rfl, B3.out.alloc B3.out.size _⟩
          exact FErr.new E w3 _ HG.out k _ rfl (_, (k : Int)) rfl
end Go.Proofs.YtkjcclbnbbbfaaaGreatDoor
