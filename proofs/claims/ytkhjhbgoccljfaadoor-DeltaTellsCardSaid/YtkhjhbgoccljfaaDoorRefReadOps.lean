/- Contract of the document's ReadOps. -/
import Derived.Test.YtkhjhbgoccljfaaDoorRefOps
import Derived.Test.YtkhjhbgoccljfaaDoorRefTextOf
import Derived.Test.YtkhjhbgoccljfaaDoorDeltaRead
namespace Go.Proofs.YtkhjhbgoccljfaaDoor
open Go.RowKit
set_option linter.unusedVariables false

theorem tAt_drop {s : List UInt8} {p : Nat} (h : tC (s.drop p) = 0) : s.drop (tAt s.length p (s.drop p)) = tR (s.drop p) ∧ tAt s.length p (s.drop p) ≤ s.length ∧ p < tAt s.length p (s.drop p) := by
  by_cases g0 : gC (s.drop p) = 0
  · obtain ⟨e1, e2⟩ := gR_drop g0
    by_cases g1 : 20000 < gN (s.drop p)
    · have := (t_err2 g0 g1).1; omega
    · by_cases g2 : (gR (s.drop p)).length < gN (s.drop p)
      · have := (t_err3 g0 g1 g2).1; omega
      · have hr := (t_fine g0 g1 g2).2.2
        have hk : tAt s.length p (s.drop p) = s.length - (tR (s.drop p)).length := by unfold tAt; rw [if_pos h]
        have hl : (tR (s.drop p)).length = (gR (s.drop p)).length - gN (s.drop p) := by rw [hr, List.length_drop]
        rw [List.length_drop] at e1 e2
        rw [hk]
        refine ⟨?_, by omega, by omega⟩
        have e3 : s.drop (s.length - (gR (s.drop p)).length) = gR (s.drop p) := by
          conv => rhs; rw [e1]
          rw [List.drop_drop]
          congr 1; omega
        conv => rhs; rw [hr, ← e3]
        rw [List.drop_drop, hl]
        congr 1; omega
  · have := (t_err1 g0).2.2; exact absurd h this
theorem readO_err {L l : List UInt8} {f c : Nat} {out : List POp} (h0 : ¬ 20000 < L.length) (h : ro0 L = roL f l c out) (hc : c ≠ 0) : readO L = ([], c) := by
  rw [roL_err f l hc] at h
  have e := rEnd_err l hc
  rw [readO_end h0 h (by rw [e]; exact hc), e]
theorem ro0_e1 {L : List UInt8} (h0 : ¬ 20000 < L.length) (h : gC L ≠ 0) : readO L = ([], gC L) := by
  have hh := ro0_is (L := L) rfl rfl rfl
  rw [(rn_zero L).2.2] at hh
  exact readO_err h0 hh h
theorem ro0_go {L l1 : List UInt8} (h : gC L = 0) (h1 : gR L = l1) : ro0 L = roL (gN L) l1 0 [] := by
  have hh := ro0_is (L := L) rfl rfl rfl
  rw [(rn_zero L).2.2, (rn_zero L).2.1, (rn_zero L).1, h, h1] at hh
  exact hh
theorem rdOp_e1 {l : List UInt8} (h : gC l ≠ 0) : (rdOp l).2.2 = gC l := by
  have hh := rdOp_err (l := l) (by rw [(rn_zero l).2.2]; exact h)
  rw [hh, (rn_zero l).2.2]
theorem rdOp_d {l : List UInt8} (h : gC l = 0) (hn : gN l = 1) : rdOp l = (⟨kData, 0, 0, tT (gR l)⟩, tR (gR l), tC (gR l)) := by
  have hh := rdOp_data (l := l) (l1 := gR l) (by rw [(rn_zero l).2.2]; exact h) (by rw [(rn_zero l).1]; exact hn) (rn_zero l).2.1
  rw [hh, (rt_zero _).1, (rt_zero _).2.1, (rt_zero _).2.2]
theorem rdOp_k {l : List UInt8} (h : gC l = 0) (hn : gN l ≠ 0) (hn1 : gN l ≠ 1) : (rdOp l).2.2 = 1 := by
  rw [rdOp_kind (by rw [(rn_zero l).2.2]; exact h) (by rw [(rn_zero l).1]; exact hn) (by rw [(rn_zero l).1]; exact hn1)]
theorem rdOp_c1 {l : List UInt8} (h : gC l = 0) (hn : gN l = 0) (h1 : gC (gR l) ≠ 0) : (rdOp l).2.2 = gC (gR l) := by
  rw [rdOp_copy (l1 := gR l) (by rw [(rn_zero l).2.2]; exact h) (by rw [(rn_zero l).1]; exact hn) (rn_zero l).2.1 rfl (rn_zero _).2.2, (rn_err _ h1).2.2]
theorem rdOp_c2 {l : List UInt8} (h : gC l = 0) (hn : gN l = 0) (h1 : gC (gR l) = 0) : rdOp l = (⟨kCopy, gN (gR l), gN (gR (gR l)), []⟩, gR (gR (gR l)), gC (gR (gR l))) := by
  rw [rdOp_copy (l1 := gR l) (l2 := gR (gR l)) (c2 := 0) (by rw [(rn_zero l).2.2]; exact h) (by rw [(rn_zero l).1]; exact hn) (rn_zero l).2.1 (rn_zero _).2.1 (by rw [(rn_zero _).2.2]; exact h1), (rn_zero _).1, (rn_zero (gR (gR l))).1, (rn_zero (gR (gR l))).2.1, (rn_zero (gR (gR l))).2.2]

set_option maxRecDepth 100000 in
set_option maxHeartbeats 6400000 in
theorem rreadops_any (L : List UInt8) (w : World) (hs : L.length ≤ 1000000) :
    Calls Tryd.prog 39 #[.string (bs L)] w fun e w' => ∃ v, e = .returned (.tuple #[v, .int .i64 (readO L).2]) ∧
      w'.ownsRow w.heap.size 67 4 v (readO L).1.length (ocells (readO L).1) ∧ Below w.heap.size w w' := by
  obtain ⟨i0, hi, hz0, hz1, hz2⟩ := info_parts info_op
  have NIL := Lib.hid (fun (w' : World) => show w'.ownsRow w.heap.size 67 4 (.slice none 0 0) 0 (ocells []) by rw [ocells_nil]; exact World.ownsRow_nil _ _ _ _)
  by_cases hlong : 20000 < L.length
  · have hlI : (20000 : Int) < L.length := by omega
    have HR := Lib.hid (readO_long hlong)
    clear hlong
    go_enter Tryd.func39, Tryd.ntmps39
    go_wp2_with fail
    go_ret2
    exact ⟨.slice none 0 0, by rw [HR.out]; rfl, by rw [HR.out]; exact NIL.out _, Below.refl _ _⟩
  have hlI : ¬ (20000 : Int) < L.length := by omega
  have NO := fun (p : Nat) (w' : World) (hp : p ≤ L.length) => rnumof_any (bs L) p w' (by rw [bs_size]; omega) (by rw [bs_size]; exact hp)
  have TO := fun (p : Nat) (w' : World) (hp : p ≤ L.length) => rtextof_any (bs L) p w' (by rw [bs_size]; omega) (by rw [bs_size]; exact hp)
  simp only [bs_list, bs_size] at NO TO
  have HNO := Lib.hid NO
  have HTO := Lib.hid TO
  have HND := Lib.hid (fun (p : Nat) (h : gC (L.drop p) = 0) => nAt_drop (s := L) (at' := p) h)
  have HTD := Lib.hid (fun (p : Nat) (h : tC (L.drop p) = 0) => tAt_drop (s := L) (p := p) h)
  have HGC := Lib.hid (fun l => show gC l ≤ 2 by have := gC_cases l; omega)
  have HTC := Lib.hid (fun l => show tC l ≤ 2 by have := tC_cases l; omega)
  have HGN := Lib.hid gN_le
  have N0 := NO 0 w (by omega)
  rw [List.drop_zero] at N0
  have HN0 := Lib.hid N0
  have hnd0 := fun (h : gC L = 0) => HND.out 0 (by rw [List.drop_zero]; exact h)
  rw [List.drop_zero] at hnd0
  have hgc0 := HGC.out L
  have HLONG := Lib.hid hlong
  clear NO TO N0 hlong
  by_cases c0 : gC L = 0
  · obtain ⟨a1, a2, a3⟩ := hnd0 c0
    have hcI : ¬ (0 : Int) < gC L := by omega
    have hr0 := ro0_go c0 a1.symm
    rw [c0] at HN0
    have hml := HGN.out L
    generalize nAt L.length 0 L = p1 at *
    have HR0 := Lib.hid hr0
    generalize gN L = many at *
    clear hnd0 a1 c0 hr0 a3 hgc0
    go_enter Tryd.func39, Tryd.ntmps39
    go_wp2_with fail
    refine HN0.out.mono ?_
    rintro e w1 ⟨rfl, rfl⟩
    go_wp2_with fail
    go_loopw [5, 7, 8, 9, 10, 11, 12, 13, 14, 15, 16] (fun t o i _ _ _ _ _ _ _ _ wr => ∃ (k p : Nat) (out : List POp), i = .int .i64 k ∧ k ≤ many ∧ t = .int .i64 p ∧ p ≤ L.length ∧ out.length = k ∧ k ≤ p ∧ ro0 L = roL (many - k) (L.drop p) 0 out ∧
      wr.ownsRow w.heap.size 67 4 o k (ocells out) ∧ Below w.heap.size w wr) (fun _ _ i _ _ _ _ _ _ _ _ _ => many - (intOf i).toNat)
    case atStart => exact ⟨0, p1, [], rfl, by omega, rfl, a2, rfl, by omega, HR0.out, NIL.out _, Below.refl _ _⟩
    case round =>
      obtain ⟨k, p, out, rfl, hk, rfl, hp, hok, hkp, hrd, hown, bel⟩ := hrel
      have HRD := Lib.hid hrd
      have HOK := Lib.hid hok
      clear hrd hok
      by_cases hlt : k < many
      · have hltI : (k : Int) < many := by omega
        have HST := Lib.hid (HRD.out.trans (roL_step (by omega) (L.drop p) out))
        have KK := Lib.hid (show k + 1 ≤ many ∧ many - (k + 1) = many - k - 1 by omega)
        have ERR := Lib.hid (fun (c : Nat) (h : (rdOp (L.drop p)).2.2 = c) (hc : c ≠ 0) => readO_err HLONG.out (HST.out.trans (by rw [h])) hc)
        have N1 := HNO.out p wr hp
        have hnd := HND.out p
        obtain ⟨l0, hl0⟩ : ∃ l0, l0 = L.drop p := ⟨_, rfl⟩
        rw [← hl0] at HST ERR N1 hnd
        have HN1 := Lib.hid N1
        have hg := HGC.out l0
        have hkn := HGN.out l0
        have OWN := Lib.hid hown
        have BEL := Lib.hid bel
        have hbs := bel.size
        clear hl0 N1
        by_cases c1 : gC l0 = 0
        · obtain ⟨f1, f2, f3⟩ := hnd c1
          have hcn : ¬ (0 : Int) < gC l0 := by omega
          generalize hp2 : nAt L.length p l0 = q at *
          have OPD := Lib.hid (rdOp_d (l := l0) c1)
          have OPK := Lib.hid (rdOp_k (l := l0) c1)
          have OPC1 := Lib.hid (rdOp_c1 (l := l0) c1)
          have OPC2 := Lib.hid (rdOp_c2 (l := l0) c1)
          clear hnd c1 hp2
          generalize gN l0 = kind at *
          have T2 := HTO.out q wr f2
          have N2 := HNO.out q wr f2
          have htd := HTD.out q
          have hnd2 := HND.out q
          rw [f1] at T2 N2 htd hnd2
          generalize gR l0 = l1 at *
          have HT2 := Lib.hid T2
          have HN2 := Lib.hid N2
          clear T2 N2 f1
          by_cases hk1 : kind = 1
          · have hd := OPD.out hk1
            subst hk1
            rw [hd] at HST ERR
            simp only [] at HST ERR
            have htc := HTC.out l1
            clear OPD OPK OPC1 OPC2 hd hnd2
            by_cases c2 : tC l1 = 0
            · obtain ⟨g1, g2, g3⟩ := htd c2
              have hcn2 : ¬ (0 : Int) < tC l1 := by omega
              rw [c2, ← g1] at HST
              generalize tAt L.length q l1 = r at *
              generalize tT l1 = d at *
              have HM1 : Hid (k + 1 ≤ maxLen) := by show _ ≤ _; unfold maxLen; omega
              have HM2 : Hid ((k + 1) * 48 ≤ 140737488355328) := by show _ ≤ _; omega
              have HM3 : Hid (w.heap.size ≤ (wr.alloc (.cells #[.string ⟨#[100, 97, 116, 97]⟩, .int .i64 0, .int .i64 0, .string (bs d)] 67)).heap.size) := by show _ ≤ _; simp; omega
              have NEWC : Hid (∀ u ∈ [Value.string ⟨#[100, 97, 116, 97]⟩, .int .i64 0, .int .i64 0, .string (bs d)], u.oneCell' = true) := fun u hu => by simp at hu; rcases hu with rfl | rfl | rfl | rfl <;> rfl
              clear htd g1 c2 ERR hown bel
              go_wp2_with fail
              refine HN1.out.mono ?_
              rintro e w1 ⟨rfl, rfl⟩
              go_wp2_with fail
              refine HT2.out.mono ?_
              rintro e w1 ⟨rfl, rfl⟩
              go_wp2_with (at_builtin; refine wpList_append_own _ rfl _ _ 22 rfl w.heap.size 67 i0 _ 4 48 Tryd.underlying22 hi hz0 hz1 hz2 rfl (by decide) _ _ _ rfl (OWN.out.alloc _) ⟨wr.heap.size, 0, none⟩ 1 1 [.string ⟨#[100, 97, 116, 97]⟩, .int .i64 0, .int .i64 0, .string (bs d)] rfl rfl (four_news (heap_alloc_new _ _)) (fun u hu => NEWC.out u hu) HM1.out HM2.out HM3.out ?_; intro v' w5 hown' hgrow _)
              have bel5 := (BEL.out.alloc BEL.out.size (.cells #[.string ⟨#[100, 97, 116, 97]⟩, .int .i64 0, .int .i64 0, .string (bs d)] 67)).grown hgrow (by simp; omega) (fun j hj => (OWN.out.lt j hj).1)
              have hcells : ocells (out ++ [⟨kData, 0, 0, d⟩]) = ocells out ++ [.string ⟨#[100, 97, 116, 97]⟩, .int .i64 0, .int .i64 0, .string (bs d)] := by rw [ocells_append, ocells_one, dataVals]
              go_roundw
              case rel => exact ⟨k + 1, r, out ++ [⟨kData, 0, 0, d⟩], by go_num, KK.out.1, rfl, g2, by simp [HOK.out], by omega, by rw [KK.out.2]; exact HST.out, by rw [hcells]; exact hown', bel5⟩
              case measure => simp [intOf]; omega
            · have HR := Lib.hid (ERR.out _ rfl c2)
              have hcn2 : (0 : Int) < tC l1 := by omega
              clear c2 ERR HST htd
              go_wp2_with fail
              refine HN1.out.mono ?_
              rintro e w1 ⟨rfl, rfl⟩
              go_wp2_with fail
              refine HT2.out.mono ?_
              rintro e w1 ⟨rfl, rfl⟩
              go_wp2_with fail
              go_ret2
              exact ⟨.slice none 0 0, by rw [HR.out]; rfl, by rw [HR.out]; exact NIL.out _, BEL.out⟩
          · have hk1b : ((kind : Int) == 1) = false := by rw [beq_eq_false_iff_ne]; omega
            by_cases hk0 : kind = 0
            · have OC1 := Lib.hid (OPC1.out hk0)
              have OC2 := Lib.hid (OPC2.out hk0)
              subst hk0
              have hg1 := HGC.out l1
              have ha := HGN.out l1
              clear OPD OPK OPC1 OPC2 htd HT2 hk1
              by_cases c2 : gC l1 = 0
              · obtain ⟨g1, g2, g3⟩ := hnd2 c2
                have hcn2 : ¬ (0 : Int) < gC l1 := by omega
                have hop := OC2.out c2
                rw [hop] at HST ERR
                simp only [] at HST ERR
                generalize nAt L.length q l1 = r at *
                have N3 := HNO.out r wr g2
                have hnd3 := HND.out r
                rw [g1] at N3 hnd3
                generalize gR l1 = l2 at *
                generalize gN l1 = a at *
                have HN3 := Lib.hid N3
                have hg2 := HGC.out l2
                have hb := HGN.out l2
                clear N3 g1 c2 OC1 OC2 hop hnd2
                by_cases c3 : gC l2 = 0
                · obtain ⟨i1, i2, i3⟩ := hnd3 c3
                  have hcn3 : ¬ (0 : Int) < gC l2 := by omega
                  rw [c3, ← i1] at HST
                  generalize nAt L.length r l2 = t at *
                  generalize gN l2 = n at *
                  have HM1 : Hid (k + 1 ≤ maxLen) := by show _ ≤ _; unfold maxLen; omega
                  have HM2 : Hid ((k + 1) * 48 ≤ 140737488355328) := by show _ ≤ _; omega
                  have HM3 : Hid (w.heap.size ≤ (wr.alloc (.cells #[.string ⟨#[99, 111, 112, 121]⟩, .int .i64 a, .int .i64 n, .string ⟨#[]⟩] 67)).heap.size) := by show _ ≤ _; simp; omega
                  have NEWC : Hid (∀ u ∈ [Value.string ⟨#[99, 111, 112, 121]⟩, .int .i64 a, .int .i64 n, .string ⟨#[]⟩], u.oneCell' = true) := fun u hu => by simp at hu; rcases hu with rfl | rfl | rfl | rfl <;> rfl
                  clear hnd3 i1 c3 ERR hown bel
                  go_wp2_with fail
                  refine HN1.out.mono ?_
                  rintro e w1 ⟨rfl, rfl⟩
                  go_wp2_with fail
                  refine HN2.out.mono ?_
                  rintro e w1 ⟨rfl, rfl⟩
                  go_wp2_with fail
                  refine HN3.out.mono ?_
                  rintro e w1 ⟨rfl, rfl⟩
                  go_wp2_with (at_builtin; refine wpList_append_own _ rfl _ _ 22 rfl w.heap.size 67 i0 _ 4 48 Tryd.underlying22 hi hz0 hz1 hz2 rfl (by decide) _ _ _ rfl (OWN.out.alloc _) ⟨wr.heap.size, 0, none⟩ 1 1 [.string ⟨#[99, 111, 112, 121]⟩, .int .i64 a, .int .i64 n, .string ⟨#[]⟩] rfl rfl (four_news (heap_alloc_new _ _)) (fun u hu => NEWC.out u hu) HM1.out HM2.out HM3.out ?_; intro v' w5 hown' hgrow _)
                  have bel5 := (BEL.out.alloc BEL.out.size (.cells #[.string ⟨#[99, 111, 112, 121]⟩, .int .i64 a, .int .i64 n, .string ⟨#[]⟩] 67)).grown hgrow (by simp; omega) (fun j hj => (OWN.out.lt j hj).1)
                  have hcells : ocells (out ++ [⟨kCopy, a, n, []⟩]) = ocells out ++ [.string ⟨#[99, 111, 112, 121]⟩, .int .i64 a, .int .i64 n, .string ⟨#[]⟩] := by rw [ocells_append, ocells_one, POp.vals]; simp only [bs_kCopy, bs_nil]
                  go_roundw
                  case rel => exact ⟨k + 1, t, out ++ [⟨kCopy, a, n, []⟩], by go_num, KK.out.1, rfl, i2, by simp [HOK.out], by omega, by rw [KK.out.2]; exact HST.out, by rw [hcells]; exact hown', bel5⟩
                  case measure => simp [intOf]; omega
                · have HR := Lib.hid (ERR.out _ rfl c3)
                  have hcn3 : (0 : Int) < gC l2 := by omega
                  clear c3 ERR HST hnd3
                  go_wp2_with fail
                  refine HN1.out.mono ?_
                  rintro e w1 ⟨rfl, rfl⟩
                  go_wp2_with fail
                  refine HN2.out.mono ?_
                  rintro e w1 ⟨rfl, rfl⟩
                  go_wp2_with fail
                  refine HN3.out.mono ?_
                  rintro e w1 ⟨rfl, rfl⟩
                  go_wp2_with fail
                  go_ret2
                  exact ⟨.slice none 0 0, by rw [HR.out]; rfl, by rw [HR.out]; exact NIL.out _, BEL.out⟩
              · have HR := Lib.hid (ERR.out _ (OC1.out c2) c2)
                have hcn2 : (0 : Int) < gC l1 := by omega
                clear c2 ERR HST hnd2 OC1 OC2
                go_wp2_with fail
                refine HN1.out.mono ?_
                rintro e w1 ⟨rfl, rfl⟩
                go_wp2_with fail
                refine HN2.out.mono ?_
                rintro e w1 ⟨rfl, rfl⟩
                go_wp2_with fail
                go_ret2
                exact ⟨.slice none 0 0, by rw [HR.out]; rfl, by rw [HR.out]; exact NIL.out _, BEL.out⟩
            · have hk0b : ((kind : Int) == 0) = false := by rw [beq_eq_false_iff_ne]; omega
              have HR := Lib.hid (ERR.out 1 (OPK.out hk0 hk1) (by decide))
              clear OPD OPK OPC1 OPC2 htd hnd2 ERR HST hk0 hk1
              go_wp2_with fail
              refine HN1.out.mono ?_
              rintro e w1 ⟨rfl, rfl⟩
              go_wp2_with fail
              go_ret2
              exact ⟨.slice none 0 0, by rw [HR.out]; rfl, by rw [HR.out]; exact NIL.out _, BEL.out⟩
        · have HR := Lib.hid (ERR.out _ (rdOp_e1 c1) c1)
          have hcn : (0 : Int) < gC l0 := by omega
          clear c1 ERR HST hnd
          go_wp2_with fail
          refine HN1.out.mono ?_
          rintro e w1 ⟨rfl, rfl⟩
          go_wp2_with fail
          go_ret2
          exact ⟨.slice none 0 0, by rw [HR.out]; rfl, by rw [HR.out]; exact NIL.out _, BEL.out⟩
      · have hltI : ¬ (k : Int) < many := by omega
        have hEX : ro0 L = (out, L.drop p, 0) := by rw [HRD.out, show many - k = 0 by omega, roL_end]
        have HEX := Lib.hid hEX
        clear hEX
        obtain ⟨A, cap, hv⟩ := owns_slice hown
        rw [hv] at hown ⊢
        have OWN := Lib.hid hown
        clear hown hv
        by_cases hend : p = L.length
        · have hpb : ((p : Int) == (L.length : Int)) = true := by rw [beq_iff_eq]; omega
          have hdn : L.drop p = [] := List.drop_eq_nil_of_le (by omega)
          rw [hdn] at HEX
          have SF := rof_any A k cap out wr (SliceIs.ownedK OWN.out)
          rw [rfv_is] at SF
          have HSF := Lib.hid SF
          clear SF hdn hend
          by_cases hc : (chkOps out).1 = 0
          · have HR := Lib.hid (readO_ok HLONG.out HEX.out rEnd_nil hc)
            have hcI2 : ¬ (0 : Int) < (chkOps out).1 := by omega
            clear hc
            generalize chkOps out = cc at *
            go_wp2_with fail
            refine HSF.out.mono ?_
            rintro e w5 ⟨rfl, b5⟩
            go_wp2_with fail
            go_ret2
            exact ⟨.slice A k cap, by rw [HR.out]; rfl, by rw [HR.out]; simp only []; rw [HOK.out]; exact owns_below OWN.out (below_trans' b5 (below_one _ _)), below_trans' bel (below_trans' b5 (below_one _ _))⟩
          · have HR := Lib.hid (readO_bad HLONG.out HEX.out rEnd_nil hc)
            have hcI2 : (0 : Int) < (chkOps out).1 := by omega
            clear hc
            generalize chkOps out = cc at *
            go_wp2_with fail
            refine HSF.out.mono ?_
            rintro e w5 ⟨rfl, b5⟩
            go_wp2_with fail
            go_quiet (fail)
            go_wp2_with fail
            go_ret2
            exact ⟨.slice none 0 0, by rw [HR.out]; rfl, by rw [HR.out]; exact NIL.out _, below_drewN (below_trans' bel (below_trans' b5 (below_one _ _))) _⟩
        · have hpb : ((p : Int) == (L.length : Int)) = false := by rw [beq_eq_false_iff_ne]; omega
          have hne : L.drop p ≠ [] := by intro h; have := congrArg List.length h; simp at this; omega
          have hr := readO_end HLONG.out HEX.out (by rw [rEnd_some hne]; decide)
          rw [rEnd_some hne] at hr
          have HR := Lib.hid hr
          clear hr hne hend
          go_wp2_with fail
          go_ret2
          exact ⟨.slice none 0 0, by rw [HR.out]; rfl, by rw [HR.out]; exact NIL.out _, bel⟩
  · have HR := Lib.hid (ro0_e1 HLONG.out c0)
    have hcI : (0 : Int) < gC L := by omega
    clear c0 hnd0
    go_enter Tryd.func39, Tryd.ntmps39
    go_wp2_with fail
    refine HN0.out.mono ?_
    rintro e w1 ⟨rfl, rfl⟩
    go_wp2_with fail
    go_ret2
    exact ⟨.slice none 0 0, by rw [HR.out]; rfl, by rw [HR.out]; exact NIL.out _, Below.refl _ _⟩
end Go.Proofs.YtkhjhbgoccljfaaDoor
