/- Contract of gate.Read. -/
import Derived.Test.YtkjcclbnbbbfaaaGreatDoorGateLine
namespace Go.Proofs.YtkjcclbnbbbfaaaGreatDoor
open Go.RowKit
set_option linter.unusedVariables false

theorem isEmpty_no {r : List UInt8} (h : r ≠ []) : (bs r).toList.isEmpty = false := by
  rw [bs_tl']
  cases r with
  | nil => exact absurd rfl h
  | cons c r => rfl
attribute [local irreducible] rdg glC glM gput glk nameB nmL cutC
set_option maxRecDepth 100000 in
set_option maxHeartbeats 6400000 in
theorem gread_any (E : Nat → Addr) (s : List UInt8) (w : World) (hw : LibW E w) (hs : s.length ≤ 1000000)
    (h1 : Has E w 1) (h2 : Has E w 2) (h5 : Has E w 5) (h8 : Has E w 8) (h9 : Has E w 9) :
    Calls Tryz.prog 27 #[.string (bs s)] w fun e w' => ∃ pv v, e = .returned (.tuple #[pv, v]) ∧ FErr E w' v (readG s).2.1 (readG s).2.2 ∧
      ((readG s).2.1 = 0 → ∃ gb mb n, pv = .pointer (some ⟨gb, 0, none⟩) ∧ GtAt w' gb mb n (readG s).1 ∧ n ≤ s.length ∧ w.heap.size ≤ gb ∧ w.heap.size ≤ mb) ∧ ((readG s).2.1 ≠ 0 → pv = .pointer none) ∧ Below w.heap.size w w' := by
  have HW := Lib.hid hw
  have H1 := Lib.hid h1
  have HH := Lib.hid (show Has E w 2 ∧ Has E w 5 ∧ Has E w 8 ∧ Has E w 9 from ⟨h2, h5, h8, h9⟩)
  have E1 := Lib.hid (fun (w' : World) (b : Below w.heap.size w w') => show w'.cell? ⟨3, 0, none⟩ = some (errv (E 1)) from h1.below b)
  clear hw h1 h2 h5 h8 h9
  go_enter Tryz.func27, Tryz.ntmps27
  go_wp2_with fail
  refine (gnew_any _).mono ?_
  rintro e w1 ⟨gb, mb, rfl, g1, b1, lo1, lo2⟩
  have G1 := Lib.hid g1
  have B1 := Lib.hid b1
  clear g1 b1
  go_wp2_with fail
  go_loopw [5, 6, 0, 7, 8, 9, 10] (fun last i sv _ _ _ _ wr => ∃ (k f : Nat) (la r : List UInt8) (m : GM), i = .int .i64 k ∧ last = .string (bs la) ∧ sv = .string (bs r) ∧ k + r.length ≤ s.length ∧ la.length ≤ s.length ∧ r.length + 1 ≤ f ∧ readG s = rdg f k la m r ∧ GtAt wr gb mb k m ∧ GLe m ∧ Below w.heap.size w wr) (fun _ i _ _ _ _ _ _ => s.length - (intOf i).toNat)
  case atStart => exact ⟨0, s.length + 1, [], s, [], rfl, by rw [bs_nil], rfl, by omega, by simp, by omega, rfl, G1.out, GLe.nil, B1.out⟩
  case round =>
    clear G1 B1
    obtain ⟨k, f, la, r, m, rfl, rfl, rfl, hkr, hla, hf, hrd, gt, gle, bel⟩ := hrel
    have GT := Lib.hid gt
    have GL := Lib.hid gle
    have BL := Lib.hid bel
    obtain ⟨f, rfl⟩ : ∃ f', f = f' + 1 := ⟨f - 1, by omega⟩
    by_cases hr : r = []
    · subst hr
      have RD := Lib.hid (hrd.trans (rdg_end _ _ _ _))
      rw [bs_nil]
      clear hrd gt gle bel
      go_wp2_with fail
      go_ret2
      rw [RD.out]
      exact ⟨_, _, rfl, FErr.nil _ _, fun _ => ⟨gb, mb, k, rfl, GT.out, by omega, lo1, lo2⟩, fun h => absurd rfl h, BL.out⟩
    · have hne := isEmpty_no hr
      have SC := Lib.hid (scut_any E 10 ⟨#[10]⟩ rfl r wr (by omega) (HW.out.below bel))
      have c1 := E1.out _ bel
      have hi64 : IntKind.i64.wrap ((k : Int) + 1) = k + 1 := IntWalk.i64_in _ (by omega)
      have hrl : 1 ≤ r.length := by cases r with
        | nil => exact absurd rfl hr
        | cons c r => simp
      cases hc : cutC 10 r with
      | none =>
        have RD := Lib.hid (hrd.trans (rdg_none hr hc))
        rw [hc] at SC
        clear hrd gt gle bel hc c1
        go_wp2_with fail
        refine SC.out.mono ?_
        rintro e w2 ⟨rfl, b2⟩
        have B2 := Lib.hid (below_trans' BL.out b2)
        have c1 := E1.out _ B2.out
        unfold errv at c1
        clear b2 SC
        go_wp2_with fail
        go_ret2
        rw [RD.out]
        refine ⟨_, _, rfl, ?_, fun h => absurd h (by simp), fun _ => rfl, B2.out.alloc B2.out.size _⟩
        exact FErr.new E w2 1 (by decide) k _ rfl (1, (k : Int)) rfl
      | some p =>
        have eA : cutA 10 r = p.1 := by unfold cutA; rw [hc]
        have eB : cutB 10 r = p.2 := by unfold cutB; rw [hc]
        obtain ⟨l2, l1⟩ := cut10_len hc
        rw [hc, eA, eB] at SC
        have LN := Lib.hid (fun (w' : World) (b : Below wr.heap.size wr w') => gline_any E p.1 la (k == 0) (GT.out.below b) GL.out (HW.out.below (below_trans' BL.out b)) (by omega) (by omega) (by omega) (H1.out.below (below_trans' BL.out b)) (HH.out.1.below (below_trans' BL.out b)) (HH.out.2.1.below (below_trans' BL.out b)) (HH.out.2.2.1.below (below_trans' BL.out b)) (HH.out.2.2.2.below (below_trans' BL.out b)))
        have hkz : (((k : Int) == 0) : Bool) = (k == 0) := by
          by_cases h : k = 0
          · subst h; rfl
          · rw [beq_eq_false_iff_ne.2 h, beq_eq_false_iff_ne.2 (by omega)]
        have hca := cutA_len 32 p.1
        by_cases hg : glC m p.1 la (k == 0) = 0
        · have RD := Lib.hid (hrd.trans (rdg_step hr hc hg))
          have HG := Lib.hid hg
          clear hrd gt gle bel hc c1 hg eA eB
          go_wp2_with fail
          refine SC.out.mono ?_
          rintro e w2 ⟨rfl, b2⟩
          have c1 := E1.out _ (below_trans' BL.out b2)
          have LN2 := Lib.hid (LN.out _ b2)
          have B2 := Lib.hid b2
          clear b2 SC LN
          go_wp2_with fail
          refine LN2.out.mono ?_
          rintro e w3 ⟨t, m', rfl, ht, g3, gl3, c3⟩
          rw [HG.out, ev_zero]
          obtain ⟨rfl, rfl⟩ := ht HG.out
          have KK := Lib.hid (show (cutA 32 p.1).length ≤ s.length ∧ k + 1 + p.2.length ≤ s.length ∧ p.2.length + 1 ≤ f by omega)
          have B3 := Lib.hid (c3.below (below_trans' BL.out B2.out) (fun x hx => by subst hx; exact lo2))
          have G3 := Lib.hid g3
          have GL3 := Lib.hid gl3
          clear g3 gl3 c3 LN2 ht B2
          go_wp2_with fail
          go_roundw
          case rel => exact ⟨k + 1, f, _, p.2, _, by go_num, rfl, rfl, KK.out.2.1, KK.out.1, KK.out.2.2, RD.out, G3.out, GL3.out, B3.out⟩
          case measure => simp [intOf]; omega
        · have RD := Lib.hid (hrd.trans (rdg_bad hr hc hg))
          have HG := Lib.hid hg
          clear hrd gt gle bel hc c1 hg eA eB
          go_wp2_with fail
          refine SC.out.mono ?_
          rintro e w2 ⟨rfl, b2⟩
          have c1 := E1.out _ (below_trans' BL.out b2)
          have LN2 := Lib.hid (LN.out _ b2)
          have B2 := Lib.hid b2
          clear b2 SC LN
          go_wp2_with fail
          refine LN2.out.mono ?_
          rintro e w3 ⟨t, m', rfl, ht, g3, gl3, c3⟩
          have B3 := Lib.hid (c3.below (below_trans' BL.out B2.out) (fun x hx => by subst hx; exact lo2))
          rw [ev_pos E HG.out]
          clear g3 gl3 c3 LN2 ht B2
          go_wp2_with fail
          go_ret2
          rw [RD.out]
          refine ⟨_, _, rfl, ?_, fun h => absurd h HG.out, fun _ => rfl, B3.out.alloc B3.out.size _⟩
          exact FErr.new E w3 _ HG.out k _ rfl (_, (k : Int)) rfl
end Go.Proofs.YtkjcclbnbbbfaaaGreatDoor
