/- Contract of delta.Read. -/
import Derived.Test.YtkhjhbgoccljfaaDoorOpRead
import Derived.Test.YtkhjhbgoccljfaaDoorMaker
namespace Go.Proofs.YtkhjhbgoccljfaaDoor
open Go.RowKit
set_option linter.unusedVariables false

def roL : Nat → List UInt8 → Nat → List POp → List POp × List UInt8 × Nat
  | 0, l, c, out => (out, l, c)
  | f + 1, l, c, out => if c = 0 then roL f (rdOp l).2.1 (rdOp l).2.2 (out ++ [(rdOp l).1]) else (out, l, c)
theorem roL_end (l : List UInt8) (c : Nat) (out : List POp) : roL 0 l c out = (out, l, c) := rfl
theorem roL_err (f : Nat) (l : List UInt8) {c : Nat} (h : c ≠ 0) (out : List POp) : roL f l c out = (out, l, c) := by
  cases f with
  | zero => rfl
  | succ f => simp [roL, h]
theorem roL_step {f : Nat} (hf : 0 < f) (l : List UInt8) (out : List POp) : roL f l 0 out = roL (f - 1) (rdOp l).2.1 (rdOp l).2.2 (out ++ [(rdOp l).1]) := by
  obtain ⟨g, rfl⟩ : ∃ g, f = g + 1 := ⟨f - 1, by omega⟩
  simp [roL]
def ro0 (L : List UInt8) : List POp × List UInt8 × Nat := roL (rnN L 0) (rnR L 0) (rnC L 0) []
/-- ops that are read, an error's number -/
def readO (L : List UInt8) : List POp × Nat :=
  if 20000 < L.length then ([], 2)
  else if rEnd (ro0 L).2.1 (ro0 L).2.2 ≠ 0 then ([], rEnd (ro0 L).2.1 (ro0 L).2.2)
  else if (chkOps (ro0 L).1).1 ≠ 0 then ([], (chkOps (ro0 L).1).1) else ((ro0 L).1, 0)
theorem readO_long {L : List UInt8} (h : 20000 < L.length) : readO L = ([], 2) := by simp [readO, h]
theorem readO_end {L l : List UInt8} {c : Nat} {out : List POp} (h0 : ¬ 20000 < L.length) (h : ro0 L = (out, l, c)) (h1 : rEnd l c ≠ 0) : readO L = ([], rEnd l c) := by unfold readO; rw [if_neg h0, h]; simp [h1]
theorem readO_bad {L l : List UInt8} {c : Nat} {out : List POp} (h0 : ¬ 20000 < L.length) (h : ro0 L = (out, l, c)) (h1 : rEnd l c = 0) (h2 : (chkOps out).1 ≠ 0) : readO L = ([], (chkOps out).1) := by unfold readO; rw [if_neg h0, h]; simp [h1, h2]
theorem readO_ok {L l : List UInt8} {c : Nat} {out : List POp} (h0 : ¬ 20000 < L.length) (h : ro0 L = (out, l, c)) (h1 : rEnd l c = 0) (h2 : (chkOps out).1 = 0) : readO L = (out, 0) := by unfold readO; rw [if_neg h0, h]; simp [h1, h2]
theorem ro0_is {L l1 : List UInt8} {c1 m : Nat} (h0 : rnN L 0 = m) (h1 : rnR L 0 = l1) (h2 : rnC L 0 = c1) : ro0 L = roL m l1 c1 [] := by subst h0 h1 h2; rfl
attribute [irreducible] roL ro0 readO

set_option maxRecDepth 100000 in
set_option maxHeartbeats 3200000 in
theorem dread_any (E : Nat → Addr) (s : ByteArray) (w : World) (hs : s.size ≤ 1000000000) (hT : Has E w 1) (hB : Has E w 2) (h3 : Has E w 3) (h4 : Has E w 4) :
    Calls Tryd.prog 38 #[.string s] w fun e w' => ∃ v, e = .returned (.tuple #[v, ev E (readO s.data.toList).2]) ∧
      w'.ownsRow w.heap.size 67 4 v (readO s.data.toList).1.length (ocells (readO s.data.toList).1) ∧ Below w.heap.size w w' := by
  obtain ⟨i0, hi, hz0, hz1, hz2⟩ := info_parts info_op
  obtain ⟨L, hL⟩ : ∃ L, L = s.data.toList := ⟨_, rfl⟩
  have hLl : L.length = s.size := by rw [hL]; simp
  rw [← hL]
  have hsb : s = bs L := by rw [hL, bs_of]
  have hLb : L.length ≤ 1000000000 := by omega
  clear hLl hL hs
  subst hsb
  have HB := Lib.hid hB
  have HT := Lib.hid hT
  have H3 := Lib.hid h3
  have H4 := Lib.hid h4
  by_cases hlong : 20000 < L.length
  · have hlI : (20000 : Int) < L.length := by omega
    have HR := Lib.hid (readO_long hlong)
    have c2 : w.cell? ⟨0, 0, none⟩ = some (errv (E 2)) := hB
    unfold errv at c2
    clear hT hB h3 h4
    go_enter Tryd.func38, Tryd.ntmps38
    go_wp2_with fail
    go_quiet (fail)
    go_wp2_with fail
    go_ret2
    refine ⟨.slice none 0 0, by rw [HR.out, ev_pos E (by decide)]; rfl, ?_, Drew.below (Drew.drewN _ _) _⟩
    rw [HR.out]
    simp only []
    rw [ocells_nil]
    exact World.ownsRow_nil _ _ _ _
  have hlI : ¬ (20000 : Int) < L.length := by omega
  have HLONG := Lib.hid hlong
  obtain ⟨l1, e1⟩ : ∃ x, rnR L 0 = x := ⟨_, rfl⟩
  obtain ⟨c1, e2⟩ : ∃ x, rnC L 0 = x := ⟨_, rfl⟩
  obtain ⟨many, e0⟩ : ∃ x, rnN L 0 = x := ⟨_, rfl⟩
  have hr0 := ro0_is e0 e1 e2
  have hl1 := rnR_len L 0
  rw [e1] at hl1
  have N1 := Lib.hid (fun b (w : World) h => rnum_any E b L 0 w hLb h)
  rw [e0, e1, e2] at N1
  have HR0 := Lib.hid hr0
  have hml := rnN_le L 0
  rw [e0] at hml
  have HEZ := Lib.hid (ev_zero E)
  clear e0 e1 e2 hr0 hB hT h3 h4 hlong
  have R0 : RAt E (w.alloc (.cells #[.string (bs L), .nilIface] 104)) w.heap.size L 0 := by unfold RAt; rw [ev_zero]; exact heap_alloc_new _ _
  have b0 := below_alloc' w (.cells #[.string (bs L), .nilIface] 104)
  go_enter Tryd.func38, Tryd.ntmps38
  go_wp2_with fail
  refine (N1.out _ _ R0 (HT.out.below b0) (HB.out.below b0)).mono ?_
  rintro e w1 ⟨rfl, R1, g1⟩
  have b1 := b0.grown g1 b0.size (fun k hk => by cases hk; exact Nat.le_refl _)
  clear R0 b0 g1
  go_wp2_with fail
  go_loopw [6, 7] (fun o i wr => ∃ (k : Nat) (out : List POp) (l : List UInt8) (c : Nat), i = .int .i64 k ∧ k ≤ many ∧ out.length = k ∧ out.length ≤ L.length + 1 ∧ (c = 0 → out.length + l.length ≤ L.length) ∧ l.length ≤ L.length ∧
      ro0 L = roL (many - k) l c out ∧ RAt E wr w.heap.size l c ∧ wr.ownsRow (w.heap.size + 1) 67 4 o k (ocells out) ∧ Below w.heap.size w wr) (fun _ i _ => many - (intOf i).toNat)
  case atStart => exact ⟨0, [], l1, c1, rfl, by omega, rfl, by simp, fun _ => by simp; omega, by omega, HR0.out, R1, by rw [ocells_nil]; exact World.ownsRow_nil _ _ _ _, b1⟩
  case round =>
    clear R1 b1
    obtain ⟨k, out, l, c, rfl, hk, hok, ho1, ho2, hll, hrd, R, hown, bel⟩ := hrel
    have HRD := Lib.hid hrd
    have HOK := Lib.hid hok
    have HO2 := Lib.hid ho2
    obtain ⟨r0, r1⟩ := R.cs
    clear hrd hok ho2
    by_cases hgo : k < many ∧ c = 0
    · obtain ⟨hlt, rfl⟩ := hgo
      have hltI : (k : Int) < many := by omega
      rw [ev_zero] at r1
      have hstep := HRD.out.trans (roL_step (by omega) l out)
      have hshort := rdOp_len l
      have hle := rdOp_le l
      have P1 := Lib.hid (fun b (w : World) h => oprd_any E b l w (by omega) h)
      generalize rdOp l = rd at *
      obtain ⟨o1, m, d⟩ := rd
      simp only [] at hstep hshort hle P1
      have HSTEP := Lib.hid hstep
      have HSH := Lib.hid hshort
      have KK := Lib.hid (show k + 1 ≤ many ∧ many - (k + 1) = many - k - 1 by omega)
      have HO3 := Lib.hid (HO2.out rfl)
      clear hstep hshort
      have hsz0 := R.lt
      unfold POp.val at P1
      go_wp2_with fail
      refine (P1.out _ _ R (HT.out.below bel) (HB.out.below bel)).mono ?_
      rintro e v3 ⟨rfl, R3, g3⟩
      have bel3 := bel.grown g3 bel.size (fun k hk => by cases hk; exact Nat.le_refl _)
      have hown3 := owns_other' hown (Nat.lt_succ_self _) g3
      clear R bel g3 hown r0 r1
      have hsz3 := R3.lt
      have OWN := Lib.hid hown3
      have RR := Lib.hid R3
      have HSZ3 := Lib.hid hsz3
      have HM1 : Hid (k + 1 ≤ maxLen) := by show _ ≤ _; unfold maxLen; omega
      have HM2 : Hid ((k + 1) * 48 ≤ 140737488355328) := by show _ ≤ _; have := HOK.out; omega
      have HM3 : Hid (w.heap.size + 1 ≤ (v3.alloc (.cells #[.string (bs o1.kind), .int .i64 o1.a, .int .i64 o1.n, .string (bs o1.data)] 67)).heap.size) := by show _ ≤ _; have := bel3.size; have := HSZ3.out; simp; omega
      have NEWC : Hid (∀ u ∈ [Value.string (bs o1.kind), .int .i64 o1.a, .int .i64 o1.n, .string (bs o1.data)], u.oneCell' = true) := fun u hu => ocells_cell [o1] u (by rw [ocells_one]; exact hu)
      go_wp2_with (at_builtin; refine wpList_append_own _ rfl _ _ 22 rfl (w.heap.size + 1) 67 i0 _ 4 48 Tryd.underlying22 hi hz0 hz1 hz2 rfl (by decide) _ _ _ rfl (OWN.out.alloc _) ⟨v3.heap.size, 0, none⟩ 1 1 [.string (bs o1.kind), .int .i64 o1.a, .int .i64 o1.n, .string (bs o1.data)] rfl rfl (four_news (heap_alloc_new _ _)) (fun u hu => NEWC.out u hu) HM1.out HM2.out HM3.out ?_; intro v' v5 hown' hgrow _)
      have bel5 := (bel3.alloc bel3.size (.cells #[.string (bs o1.kind), .int .i64 o1.a, .int .i64 o1.n, .string (bs o1.data)] 67)).grown hgrow (by have := bel3.size; simp; omega) (fun j hj => by have := (OWN.out.lt j hj).1; omega)
      have hne : some w.heap.size ≠ Value.ownBlock u6 := fun e => by have := (OWN.out.lt _ e.symm).1; omega
      have R5 := (RAt.below RR.out (below_alloc' _ (.cells #[.string (bs o1.kind), .int .i64 o1.a, .int .i64 o1.n, .string (bs o1.data)] 67))).grown hgrow hne
      have hcells : ocells (out ++ [o1]) = ocells out ++ [.string (bs o1.kind), .int .i64 o1.a, .int .i64 o1.n, .string (bs o1.data)] := by
        rw [ocells_append, ocells_one]; simp only [POp.vals]
      go_roundw
      case rel => exact ⟨k + 1, out ++ [o1], m, d, by go_num, KK.out.1, by simp [HOK.out], by have := HO3.out; simp; omega, (fun h => by have := HSH.out h; have := HO3.out; simp; omega), by omega, by rw [KK.out.2]; exact HSTEP.out, R5, by rw [hcells]; exact hown', bel5⟩
      case measure => simp [intOf]; omega
    · have hEX : ro0 L = (out, l, c) := by
        rw [HRD.out]
        by_cases hc : c = 0
        · have : many - k = 0 := by omega
          rw [this, roL_end]
        · exact roL_err _ _ hc _
      have HEX := Lib.hid hEX
      clear hEX
      have WAYS : ¬ (k : Int) < many ∨ (k : Int) < many ∧ c ≠ 0 := by omega
      have EN := Lib.hid (rend_any E w.heap.size l c wr R (HT.out.below bel))
      clear hgo
      obtain ⟨A, cap, rfl⟩ := owns_slice hown
      have WAYS2 : ¬ (k : Int) < many ∨ (k : Int) < many ∧ ∃ x, ev E c = .iface 163 x := by
        rcases WAYS with h | ⟨h, hc⟩
        · exact .inl h
        · exact .inr ⟨h, _, ev_pos E hc⟩
      clear WAYS
      rcases WAYS2 with h | ⟨h, x, hx⟩
      all_goals
        try rw [hx] at r1
        try clear hx
        go_wp2_with fail
        refine EN.out.mono ?_
        rintro e v4 ⟨rfl, R4, g4⟩
        have bel4 := bel.grown g4 bel.size (fun k hk => by cases hk; exact Nat.le_refl _)
        have hown4 := owns_other' hown (Nat.lt_succ_self _) g4
        clear bel g4 hown R R4 r0 r1
        by_cases he : rEnd l c = 0
        · have CK := dcheck_any E A k cap out v4 (SliceIs.ownedK hown4) (HB.out.below bel4) (H3.out.below bel4) (H4.out.below bel4)
          have HCK := Lib.hid CK
          clear CK
          by_cases hcode : (chkOps out).1 = 0
          · have HR := Lib.hid (readO_ok HLONG.out HEX.out he hcode)
            have HC := Lib.hid hcode
            rw [he, ev_zero]
            clear he hcode
            go_wp2_with fail
            refine HCK.out.mono ?_
            rintro e v5 ⟨v, rfl, fe, b5⟩
            rw [HC.out] at fe
            rw [fe.zero]
            clear fe
            go_wp2_with fail
            go_ret2
            refine ⟨_, by rw [HR.out, ev_zero]; rfl, ?_, below_trans' bel4 b5⟩
            rw [HR.out]
            simp only []
            rw [HOK.out]
            exact owns_mono (owns_below hown4 b5) (by omega)
          · have HR := Lib.hid (readO_bad HLONG.out HEX.out he hcode)
            have HC := Lib.hid hcode
            rw [he, ev_zero]
            clear he hcode
            go_wp2_with fail
            refine HCK.out.mono ?_
            rintro e v5 ⟨v, rfl, fe, b5⟩
            have BA := Lib.hid (bare_any E v _ _ v5 fe)
            obtain ⟨t, p, hv⟩ := fe.some HC.out
            rw [hv] at BA ⊢
            clear fe hv
            go_wp2_with fail
            refine BA.out.mono ?_
            rintro e v6 ⟨rfl, rfl⟩
            go_wp2_with fail
            go_ret2
            refine ⟨.slice none 0 0, by rw [HR.out]; rfl, ?_, below_trans' bel4 b5⟩
            rw [HR.out]
            simp only []
            rw [ocells_nil]
            exact World.ownsRow_nil _ _ _ _
        · have HR := Lib.hid (readO_end HLONG.out HEX.out he)
          have hev := ev_is E he
          rw [hev]
          have HEV := Lib.hid hev
          unfold errv at HEV ⊢
          clear hev he
          go_wp2_with fail
          go_ret2
          refine ⟨.slice none 0 0, by rw [HR.out, HEV.out]; rfl, ?_, bel4⟩
          rw [HR.out]
          simp only []
          rw [ocells_nil]
          exact World.ownsRow_nil _ _ _ _
end Go.Proofs.YtkhjhbgoccljfaaDoor
