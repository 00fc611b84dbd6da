/- Contract of delta.read. -/
import Derived.Test.YtkhjhbgoccljfaaDoorOps2
import Derived.Test.YtkhjhbgoccljfaaDoorSignRead
namespace Go.Proofs.YtkhjhbgoccljfaaDoor
open Go.RowKit
set_option linter.unusedVariables false

def zop : POp := ⟨[], 0, 0, []⟩
/-- an op off a reader that has no error yet -/
def rdOp (l : List UInt8) : POp × List UInt8 × Nat :=
  if rnC l 0 ≠ 0 then (zop, rnR l 0, rnC l 0)
  else if rnN l 0 = 0 then (⟨kCopy, rnN (rnR l 0) 0, rnN (rnR (rnR l 0) 0) (rnC (rnR l 0) 0), []⟩, rnR (rnR (rnR l 0) 0) (rnC (rnR l 0) 0), rnC (rnR (rnR l 0) 0) (rnC (rnR l 0) 0))
  else if rnN l 0 = 1 then (⟨kData, 0, 0, rtT (rnR l 0) 0⟩, rtR (rnR l 0) 0, rtC (rnR l 0) 0)
  else (zop, rnR l 0, 1)
theorem rdOp_err {l : List UInt8} (h : rnC l 0 ≠ 0) : rdOp l = (zop, rnR l 0, rnC l 0) := by unfold rdOp; rw [if_pos h]
theorem rdOp_copy {l l1 l2 : List UInt8} {c2 : Nat} (h : rnC l 0 = 0) (hn : rnN l 0 = 0) (h1 : rnR l 0 = l1) (h2 : rnR l1 0 = l2) (h3 : rnC l1 0 = c2) : rdOp l = (⟨kCopy, rnN l1 0, rnN l2 c2, []⟩, rnR l2 c2, rnC l2 c2) := by
  subst h1 h2 h3; unfold rdOp; rw [if_neg (by simp [h]), if_pos hn]
theorem rdOp_data {l l1 : List UInt8} (h : rnC l 0 = 0) (hn : rnN l 0 = 1) (h1 : rnR l 0 = l1) : rdOp l = (⟨kData, 0, 0, rtT l1 0⟩, rtR l1 0, rtC l1 0) := by
  subst h1; unfold rdOp; rw [if_neg (by simp [h]), if_neg (by omega), if_pos hn]
theorem rdOp_kind {l : List UInt8} (h : rnC l 0 = 0) (hn : rnN l 0 ≠ 0) (hn1 : rnN l 0 ≠ 1) : rdOp l = (zop, rnR l 0, 1) := by
  unfold rdOp; rw [if_neg (by simp [h]), if_neg hn, if_neg hn1]
theorem rtC_zero {l : List UInt8} {c : Nat} (h : rtC l c = 0) : c = 0 ∧ tC l = 0 := by
  by_cases hc : c = 0
  · subst hc; rw [(rt_zero l).2.2] at h; exact ⟨rfl, h⟩
  · rw [(rt_err l hc).2.2] at h; exact absurd h hc
theorem rdOp_len (l : List UInt8) (h : (rdOp l).2.2 = 0) : (rdOp l).2.1.length < l.length := by
  by_cases h0 : rnC l 0 = 0
  · have hs := gR_short l (rnC_zero h0).2
    rw [← (rn_zero l).2.1] at hs
    by_cases h1 : rnN l 0 = 0
    · rw [rdOp_copy h0 h1 rfl rfl rfl]
      have a := rnR_len (rnR l 0) 0
      have b := rnR_len (rnR (rnR l 0) 0) (rnC (rnR l 0) 0)
      show (rnR (rnR (rnR l 0) 0) (rnC (rnR l 0) 0)).length < _
      omega
    · by_cases h2 : rnN l 0 = 1
      · rw [rdOp_data h0 h2 rfl]
        have a := rtR_len (rnR l 0) 0
        show (rtR (rnR l 0) 0).length < _
        omega
      · rw [rdOp_kind h0 h1 h2] at h; simp at h
  · rw [rdOp_err h0] at h; exact absurd h h0
theorem rdOp_le (l : List UInt8) : (rdOp l).2.1.length ≤ l.length := by
  have a0 := rnR_len l 0
  by_cases h0 : rnC l 0 = 0
  · by_cases h1 : rnN l 0 = 0
    · rw [rdOp_copy h0 h1 rfl rfl rfl]
      have a := rnR_len (rnR l 0) 0
      have b := rnR_len (rnR (rnR l 0) 0) (rnC (rnR l 0) 0)
      show (rnR (rnR (rnR l 0) 0) (rnC (rnR l 0) 0)).length ≤ _
      omega
    · by_cases h2 : rnN l 0 = 1
      · rw [rdOp_data h0 h2 rfl]
        have a := rtR_len (rnR l 0) 0
        show (rtR (rnR l 0) 0).length ≤ _
        omega
      · rw [rdOp_kind h0 h1 h2]; exact a0
  · rw [rdOp_err h0]; exact a0
attribute [irreducible] rdOp

theorem has_grown {E : Nat → Addr} {w w' : World} {c b d : Nat} {l : List UInt8} (h : Has E w c) (R : RAt E w b l d) (g : w.grownBy w' (some b)) : Has E w' c := by
  have hne : gOf c ≠ b := by
    intro e
    have := R.cs.1
    unfold Has at h
    rw [e, this] at h
    unfold errv at h
    simp at h
  unfold Has at *
  exact g.cell h (by intro e; exact hne (Option.some.inj e))
theorem copyV (x y : Int) : POp.val ⟨kCopy, x, y, []⟩ = .agg #[.string ⟨#[99, 111, 112, 121]⟩, .int .i64 x, .int .i64 y, .string ⟨#[]⟩] := by simp only [POp.val, bs_kCopy, bs_nil]
theorem dataV (d : List UInt8) : POp.val ⟨kData, 0, 0, d⟩ = .agg #[.string ⟨#[100, 97, 116, 97]⟩, .int .i64 0, .int .i64 0, .string (bs d)] := by simp only [POp.val, bs_kData]
theorem grown_set {w v : World} {b g k : Nat} {y : Value} (h : w.grownBy v (some b)) (hg : w.heap.size ≤ g) : w.grownBy (v.setCell ⟨g, k, none⟩ y) (some b) :=
  ⟨h.os, h.tape, h.output, by rw [World.size_setCell]; exact h.size, fun j hj hne => by rw [Below.heap_setCell _ _ _ _ (by show j ≠ g; omega)]; exact h.block j hj hne⟩
theorem set4 {E : Nat → Addr} {w v : World} {b g : Nat} {x0 x1 x2 x3 : Value} {t : TypeId} {m : List UInt8} {c : Nat} (h : v.heap[g]? = some (.cells #[x0, x1, x2, x3] t (0, 0))) (hb : g ≠ b) (R : RAt E v b m c) (hg : w.grownBy v (some b)) (hgw : w.heap.size ≤ g) (y0 y1 y2 y3 : Value) :
    ∃ v', v' = (((v.setCell ⟨g, 0, none⟩ y0).setCell ⟨g, 1, none⟩ y1).setCell ⟨g, 2, none⟩ y2).setCell ⟨g, 3, none⟩ y3 ∧ v'.cell? ⟨g, 0, none⟩ = some y0 ∧ v'.cell? ⟨g, 1, none⟩ = some y1 ∧ v'.cell? ⟨g, 2, none⟩ = some y2 ∧ v'.cell? ⟨g, 3, none⟩ = some y3 ∧ RAt E v' b m c ∧ w.grownBy v' (some b) := by
  have h1 := set_at (k := 3) (u := y3) (set_at (k := 2) (u := y2) (set_at (k := 1) (u := y1) (set_at (k := 0) (u := y0) h)))
  refine ⟨_, rfl, ?_, ?_, ?_, ?_, ?_, grown_set (grown_set (grown_set (grown_set hg hgw) hgw) hgw) hgw⟩
  · simp [World.cell?, h1]
  · simp [World.cell?, h1]
  · simp [World.cell?, h1]
  · simp [World.cell?, h1]
  · unfold RAt at R ⊢
    rw [Below.heap_setCell _ _ _ _ (by exact fun e => hb e.symm), Below.heap_setCell _ _ _ _ (by exact fun e => hb e.symm), Below.heap_setCell _ _ _ _ (by exact fun e => hb e.symm), Below.heap_setCell _ _ _ _ (by exact fun e => hb e.symm)]
    exact R
theorem facts4 {v : World} {g : Nat} {x0 x1 x2 x3 : Value} {t : TypeId} (h : v.heap[g]? = some (.cells #[x0, x1, x2, x3] t (0, 0))) :
    (v.cell? ⟨g, 0, none⟩ = some x0 ∧ v.cell? ⟨g, 1, none⟩ = some x1 ∧ v.cell? ⟨g, 2, none⟩ = some x2 ∧ v.cell? ⟨g, 3, none⟩ = some x3) ∧ ∀ k, v.frozen? ⟨g, k, none⟩ = false := by
  refine ⟨⟨?_, ?_, ?_, ?_⟩, fun k => ?_⟩ <;> simp [World.cell?, World.frozen?, h]

set_option maxRecDepth 100000 in
set_option maxHeartbeats 3200000 in
theorem oprd_any (E : Nat → Addr) (b : Nat) (l : List UInt8) (w : World) (hl : l.length ≤ 1000000000) (h : RAt E w b l 0) (hT : Has E w 1) (hB : Has E w 2) :
    Calls Tryd.prog 67 #[.pointer (some ⟨b, 0, none⟩)] w fun e w' => e = .returned (rdOp l).1.val ∧ RAt E w' b (rdOp l).2.1 (rdOp l).2.2 ∧ w.grownBy w' (some b) := by
  have hbg : b < w.heap.size := h.lt
  have hne : w.heap.size ≠ b := by omega
  have b0 := below_alloc' w (.cells #[.string ⟨#[]⟩, .int .i64 0, .int .i64 0, .string ⟨#[]⟩] 67)
  have R0 := h.below b0
  have HB := Lib.hid hB
  have HT := Lib.hid hT
  have G0 : (w.alloc (.cells #[.string ⟨#[]⟩, .int .i64 0, .int .i64 0, .string ⟨#[]⟩] 67)).heap[w.heap.size]? = some (.cells #[.string ⟨#[]⟩, .int .i64 0, .int .i64 0, .string ⟨#[]⟩] 67 (0, 0)) := heap_alloc_new _ _
  have hz0 : w.heap.size < (w.alloc (.cells #[.string ⟨#[]⟩, .int .i64 0, .int .i64 0, .string ⟨#[]⟩] 67)).heap.size := by simp
  have K0 := grownBy_below (r := some b) b0
  have hBx := HB.out.below b0
  have hTx := HT.out.below b0
  obtain ⟨g, hgd⟩ : ∃ g, g = w.heap.size := ⟨_, rfl⟩
  have hgw : w.heap.size ≤ g := by omega
  have HGW := Lib.hid hgw
  obtain ⟨l1, e1⟩ : ∃ x, rnR l 0 = x := ⟨_, rfl⟩
  obtain ⟨c1, e2⟩ : ∃ x, rnC l 0 = x := ⟨_, rfl⟩
  obtain ⟨k, e3⟩ : ∃ x, rnN l 0 = x := ⟨_, rfl⟩
  have N1 := Lib.hid (fun (w : World) h => rnum_any E b l 0 w hl h)
  rw [e1, e2, e3] at N1
  have HE1 := Lib.hid e1
  have HE2 := Lib.hid e2
  have HE3 := Lib.hid e3
  have HZ := Lib.hid (show POp.val zop = .agg #[.string ⟨#[]⟩, .int .i64 0, .int .i64 0, .string ⟨#[]⟩] by unfold zop POp.val; rw [bs_nil])
  have hl1 := rnR_len l 0
  rw [e1] at hl1
  have hk := rnN_le l 0
  rw [e3] at hk
  have h0 := h
  clear e1 e2 e3 h hB hT
  have HNE := Lib.hid hne
  go_enter Tryd.func67, Tryd.ntmps67
  go_wp2_with fail
  rw [← hgd] at G0 hz0 ⊢
  have hne2 : g ≠ b := by omega
  clear hgd
  generalize w.alloc (.cells #[.string ⟨#[]⟩, .int .i64 0, .int .i64 0, .string ⟨#[]⟩] 67) = w0 at *
  refine (N1.out _ R0 hTx hBx).mono ?_
  rintro e w1 ⟨rfl, R1, g1⟩
  have K1 := grownBy_trans K0 g1
  have G1 := (g1.block g hz0 (fun h => hne2 (Option.some.inj h))).trans G0
  have HTw := Lib.hid (has_grown HT.out h0 K1)
  have HBw := Lib.hid (has_grown HB.out h0 K1)
  clear h0 R0 b0 G0 hz0 K0 g1 hBx hTx N1
  obtain ⟨⟨q0, q1⟩, fzb⟩ := (⟨R1.cs, R1.fz⟩ : (_ ∧ _) ∧ _)
  obtain ⟨⟨d0, d1, d2, d3⟩, fz⟩ := facts4 G1
  have f0 := fz 0
  have f1 := fz 1
  have f2 := fz 2
  have f3 := fz 3
  by_cases hc : c1 = 0
  · subst hc
    rw [ev_zero] at q1
    by_cases hk0 : k = 0
    · subst hk0
      obtain ⟨l2, a1⟩ : ∃ x, rnR l1 0 = x := ⟨_, rfl⟩
      obtain ⟨c2, a2⟩ : ∃ x, rnC l1 0 = x := ⟨_, rfl⟩
      have hrd := rdOp_copy HE2.out HE3.out HE1.out a1 a2
      have P1 := Lib.hid (fun (w : World) h => rnum_any E b l1 0 w (by omega) h)
      have hl2 := rnR_len l1 0
      rw [a1] at hl2
      have P2 := Lib.hid (fun (w : World) h => rnum_any E b l2 c2 w (by omega) h)
      rw [a1, a2] at P1
      generalize rnN l1 0 = x at *
      generalize rnN l2 c2 = y at *
      generalize rnR l2 c2 = l3 at *
      generalize rnC l2 c2 = c3 at *
      have HRD := Lib.hid hrd
      clear a1 a2 hrd fz
      go_wp2_with fail
      refine (P1.out _ R1 HTw.out HBw.out).mono ?_
      rintro e w2 ⟨rfl, R2, g2⟩
      have K2 := grownBy_trans K1 g2
      have G2 := (g2.block g (lt_of_block G1) (fun h => hne2 (Option.some.inj h))).trans G1
      have HTw2 := Lib.hid (has_grown HTw.out R1 g2)
      have HBw2 := Lib.hid (has_grown HBw.out R1 g2)
      clear R1 G1 K1 g2 d0 d1 d2 d3 f0 f1 f2 f3 q0 q1 fzb
      go_wp2_with fail
      refine (P2.out _ R2 HTw2.out HBw2.out).mono ?_
      rintro e w3 ⟨rfl, R3, g3⟩
      have K3 := grownBy_trans K2 g3
      have G3 := (g3.block g (lt_of_block G2) (fun h => hne2 (Option.some.inj h))).trans G2
      clear R2 G2 K2 g3
      obtain ⟨⟨d0, d1, d2, d3⟩, fz⟩ := facts4 G3
      have f0 := fz 0
      have f1 := fz 1
      have f2 := fz 2
      have f3 := fz 3
      obtain ⟨v', hv', r0, r1, r2, r3, R4, K4⟩ := set4 G3 hne2 R3 K3 HGW.out (.string ⟨#[99, 111, 112, 121]⟩) (.int .i64 x) (.int .i64 y) (.string ⟨#[]⟩)
      clear fz G3 R3 K3
      go_wp2_with fail
      rw [← hv']
      clear hv' d0 d1 d2 d3 f0 f1 f2 f3
      (try simp only [Exit.inBlock, Exit.then])
      refine bodyPost_ret (by simp [results, Tryd.results67, go_sem, r0, r1, r2, r3]; try rfl) rfl ?_
      exact ⟨by rw [HRD.out, copyV], by rw [HRD.out]; exact R4, K4⟩
    · have hk0b : ((k : Int) == 0) = false := by rw [beq_eq_false_iff_ne]; omega
      by_cases hk1 : k = 1
      · subst hk1
        have hrd := rdOp_data HE2.out HE3.out HE1.out
        have P1 := Lib.hid (fun (w : World) h => rtext_any E b l1 0 w (by omega) h)
        generalize rtT l1 0 = x at *
        generalize rtR l1 0 = l3 at *
        generalize rtC l1 0 = c3 at *
        have HRD := Lib.hid hrd
        clear hrd fz hk0 hk0b
        go_wp2_with fail
        refine (P1.out _ R1 HTw.out HBw.out).mono ?_
        rintro e w3 ⟨rfl, R3, g3⟩
        have K3 := grownBy_trans K1 g3
        have G3 := (g3.block g (lt_of_block G1) (fun h => hne2 (Option.some.inj h))).trans G1
        clear R1 G1 K1 g3 d0 d1 d2 d3 f0 f1 f2 f3 q0 q1 fzb
        obtain ⟨⟨d0, d1, d2, d3⟩, fz⟩ := facts4 G3
        have f0 := fz 0
        have f1 := fz 1
        have f2 := fz 2
        have f3 := fz 3
        obtain ⟨v', hv', r0, r1, r2, r3, R4, K4⟩ := set4 G3 hne2 R3 K3 HGW.out (.string ⟨#[100, 97, 116, 97]⟩) (.int .i64 0) (.int .i64 0) (.string (bs x))
        clear fz G3 R3 K3
        go_wp2_with fail
        rw [← hv']
        clear hv' d0 d1 d2 d3 f0 f1 f2 f3
        (try simp only [Exit.inBlock, Exit.then])
        refine bodyPost_ret (by simp [results, Tryd.results67, go_sem, r0, r1, r2, r3]; try rfl) rfl ?_
        exact ⟨by rw [HRD.out, dataV], by rw [HRD.out]; exact R4, K4⟩
      · have hk1b : ((k : Int) == 1) = false := by rw [beq_eq_false_iff_ne]; omega
        have HRD := Lib.hid (rdOp_kind HE2.out (by rw [HE3.out]; exact hk0) (by rw [HE3.out]; exact hk1))
        rw [HE1.out] at HRD
        have t1 : w1.cell? ⟨3, 0, none⟩ = some (errv (E 1)) := HTw.out
        unfold errv at t1
        have fb1 := fzb 1
        have R2 := R1.set1 1 _ (ev_is E (c := 1) (by decide)).symm
        unfold errv at R2
        have K2 := grownBy_trans K1 (grownBy_set w1 b 1 (.iface 163 (.pointer (some (E 1)))))
        have G2 : (w1.setCell ⟨b, 1, none⟩ (.iface 163 (.pointer (some (E 1))))).heap[g]? = some (.cells #[.string ⟨#[]⟩, .int .i64 0, .int .i64 0, .string ⟨#[]⟩] 67 (0, 0)) := (Below.heap_setCell _ _ _ _ (by exact hne2)).trans G1
        obtain ⟨w2, hw2⟩ : ∃ w2, w2 = w1.setCell ⟨b, 1, none⟩ (.iface 163 (.pointer (some (E 1)))) := ⟨_, rfl⟩
        rw [← hw2] at R2 K2 G2
        obtain ⟨⟨d0', d1', d2', d3'⟩, fz'⟩ := facts4 G2
        obtain ⟨v', hv', r0, r1, r2, r3, R4, K4⟩ := set4 G2 hne2 R2 K2 HGW.out (.string ⟨#[]⟩) (.int .i64 0) (.int .i64 0) (.string ⟨#[]⟩)
        have f0' := fz' 0
        have f1' := fz' 1
        have f2' := fz' 2
        have f3' := fz' 3
        rw [hw2] at d0' d1' d2' d3' f0' f1' f2' f3'
        rw [hw2] at hv'
        clear fz fz' hk0 hk1 R1 K1 G1 R2 K2 G2 hw2
        go_wp2_with fail
        rw [← hv']
        (try simp only [Exit.inBlock, Exit.then])
        refine bodyPost_ret (by simp [results, Tryd.results67, go_sem, r0, r1, r2, r3]; try rfl) rfl ?_
        exact ⟨by rw [HRD.out, HZ.out], by rw [HRD.out]; exact R4, K4⟩
  · have HRD := Lib.hid (rdOp_err (l := l) (by rw [HE2.out]; exact hc))
    rw [HE1.out, HE2.out] at HRD
    rw [ev_pos E hc] at q1
    obtain ⟨v', hv', r0, r1, r2, r3, R4, K4⟩ := set4 G1 hne2 R1 K1 HGW.out (.string ⟨#[]⟩) (.int .i64 0) (.int .i64 0) (.string ⟨#[]⟩)
    clear fz hc R1 K1 G1
    go_wp2_with fail
    rw [← hv']
    (try simp only [Exit.inBlock, Exit.then])
    refine bodyPost_ret (by simp [results, Tryd.results67, go_sem, r0, r1, r2, r3]; try rfl) rfl ?_
    exact ⟨by rw [HRD.out, HZ.out], by rw [HRD.out]; exact R4, K4⟩
end Go.Proofs.YtkhjhbgoccljfaaDoor
