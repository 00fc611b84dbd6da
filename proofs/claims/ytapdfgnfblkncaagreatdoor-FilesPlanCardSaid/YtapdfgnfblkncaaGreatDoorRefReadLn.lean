/- Contract of the document's ReadLines. -/
import Derived.Test.YtapdfgnfblkncaaGreatDoorRefAs
import Derived.Test.YtapdfgnfblkncaaGreatDoorRefNum
import Derived.Test.YtapdfgnfblkncaaGreatDoorFilRead
import Derived.Test.YtapdfgnfblkncaaGreatDoorSameLines
namespace Go.Proofs.YtapdfgnfblkncaaGreatDoor
open Go.RowKit
set_option linter.unusedVariables false

theorem tAt_dropL {s : List UInt8} {p : Nat} (h : tC (s.drop p) = 0) : s.drop (tAt s.length p (s.drop p)) = tR (s.drop p) ∧ tAt s.length p (s.drop p) ≤ s.length ∧ p < tAt s.length p (s.drop p) := by
  by_cases g0 : gC (s.drop p) = 0
  · obtain ⟨e1, e2⟩ := gR_drop g0
    by_cases g1 : 20000 < gN (s.drop p)
    · have := (t_err2 g0 g1).1; omega
    · by_cases g2 : (gR (s.drop p)).length < gN (s.drop p)
      · have := (t_err3 g0 g1 g2).1; omega
      · have hr := (t_fine g0 g1 g2).2.2
        have hk : tAt s.length p (s.drop p) = s.length - (tR (s.drop p)).length := by unfold tAt; rw [if_pos h]
        have hl : (tR (s.drop p)).length = (gR (s.drop p)).length - gN (s.drop p) := by rw [hr, List.length_drop]
        rw [List.length_drop] at e1 e2
        rw [hk]
        refine ⟨?_, by omega, by omega⟩
        have e3 : s.drop (s.length - (gR (s.drop p)).length) = gR (s.drop p) := by
          conv => rhs; rw [e1]
          rw [List.drop_drop]
          congr 1; omega
        conv => rhs; rw [hr, ← e3]
        rw [List.drop_drop, hl]
        congr 1; omega
  · have := (t_err1 g0).2.2; exact absurd h this

theorem pm_pl (l : List PL) : (l.map PL.pm).map PM.pl = l := by
  rw [List.map_map]
  conv => rhs; rw [← List.map_id l]
  refine List.map_congr_left fun x _ => ?_
  cases x; rfl
theorem pm_one (x : PL) : mcells [x.pm] = [.string (bs x.n), .int .i64 x.N, .int .i64 (x.S : Nat)] := rfl
theorem readLn_err {L l : List UInt8} {f c : Nat} {out : List PL} (h : rl0 L = rlLoop f l c out) (hc : c ≠ 0) : readLn L = ([], c) := by
  rw [rlLoop_err f l hc] at h
  have e := rEnd_err l hc
  rw [readLn_end h (by rw [e]; exact hc), e]
theorem rl0_e1 {L : List UInt8} (h : gC L ≠ 0) : readLn L = ([], gC L) := by
  have h0 := rl0_is (L := L) rfl rfl
  rw [(rn_zero L).2.2] at h0
  exact readLn_err h0 h
theorem rl0_go {L l1 : List UInt8} (h0 : gC L = 0) (h1 : gR L = l1) : rl0 L = rlLoop (gN L) l1 0 [] := by
  have hh := rl0_is (L := L) rfl rfl
  rw [(rn_zero L).2.2, (rn_zero L).2.1, (rn_zero L).1, h0, h1] at hh
  exact hh
theorem rdLn_e1 {l : List UInt8} (h : tC l ≠ 0) : (rdLn l).2.2 = tC l := by
  rw [rdLn_is l _ _ _ _ rfl rfl rfl rfl]
  rw [(rt_zero l).2.2, (rn_err _ h).2.2, (rn_err _ h).2.2]
  simp [h]
theorem rdLn_e2 {l l1 : List UInt8} (h0 : tC l = 0) (h1 : tR l = l1) (h : gC l1 ≠ 0) : (rdLn l).2.2 = gC l1 := by
  rw [rdLn_is l _ _ _ _ rfl rfl rfl rfl]
  rw [(rt_zero l).2.2, (rt_zero l).2.1, h0, h1, (rn_zero l1).2.2, (rn_err _ h).2.2]
  simp [h]
theorem rdLn_e3 {l l1 l2 : List UInt8} (h0 : tC l = 0) (h1 : tR l = l1) (h2 : gC l1 = 0) (h3 : gR l1 = l2) (h : gC l2 ≠ 0) : (rdLn l).2.2 = gC l2 := by
  rw [rdLn_is l _ _ _ _ rfl rfl rfl rfl]
  rw [(rt_zero l).2.2, (rt_zero l).2.1, h0, h1, (rn_zero l1).2.2, (rn_zero l1).2.1, h2, h3, (rn_zero l2).2.2]
  simp [h]
theorem rdLn_all {l l1 l2 l3 : List UInt8} (h0 : tC l = 0) (h1 : tR l = l1) (h2 : gC l1 = 0) (h3 : gR l1 = l2) (h4 : gC l2 = 0) (h5 : gR l2 = l3) :
    rdLn l = (⟨tT l, gN l1, gN l2 % 4294967296⟩, l3, if 4294967295 < gN l2 then 1 else 0) := by
  rw [rdLn_is l _ _ _ _ rfl rfl rfl rfl]
  rw [(rt_zero l).2.2, (rt_zero l).2.1, (rt_zero l).1, h0, h1, (rn_zero l1).2.2, (rn_zero l1).2.1, (rn_zero l1).1, h2, h3, (rn_zero l2).2.2, (rn_zero l2).2.1, (rn_zero l2).1, h4, h5]
  simp

set_option maxRecDepth 100000 in
set_option maxHeartbeats 6400000 in
theorem rreadlines_any (L : List UInt8) (w : World) (hs : L.length ≤ 1000000) :
    Calls Tryz.prog 12 #[.string (bs L)] w fun e w' => ∃ v, e = .returned (.tuple #[v, .int .i64 (readLn L).2]) ∧
      SliceIs w' v 3 (mcells ((readLn L).1.map PL.pm)) ∧ Below w.heap.size w w' := by
  obtain ⟨i0, hi, hz0, hz1, hz2⟩ := info_parts infoM
  have NO := fun (p : Nat) (w' : World) (hp : p ≤ L.length) => rnumof_any (bs L) p w' (by rw [bs_size]; omega) (by rw [bs_size]; exact hp)
  have TO := fun (p : Nat) (w' : World) (hp : p ≤ L.length) => rtextof_any (bs L) p w' (by rw [bs_size]; omega) (by rw [bs_size]; exact hp)
  simp only [bs_list, bs_size] at NO TO
  have HNO := Lib.hid NO
  have HTO := Lib.hid TO
  have HND := Lib.hid (fun (p : Nat) (h : gC (L.drop p) = 0) => nAt_drop (s := L) (at' := p) h)
  have HTD := Lib.hid (fun (p : Nat) (h : tC (L.drop p) = 0) => tAt_dropL (s := L) (p := p) h)
  have NIL := Lib.hid (fun (w' : World) => show SliceIs w' (.slice none 0 0) 3 (mcells (([] : List PL).map PL.pm)) from .inl ⟨rfl, rfl⟩)
  have HGC := Lib.hid (fun l => show gC l ≤ 2 by have := gC_cases l; omega)
  have HTC := Lib.hid (fun l => show tC l ≤ 2 by have := tC_cases l; omega)
  have HGN := Lib.hid gN_le
  have N0 := NO 0 w (by omega)
  rw [List.drop_zero] at N0
  have HN0 := Lib.hid N0
  have hnd0 := fun (h : gC L = 0) => HND.out 0 (by rw [List.drop_zero]; exact h)
  rw [List.drop_zero] at hnd0
  have hgc0 := HGC.out L
  clear NO TO N0
  by_cases c0 : gC L = 0
  case neg =>
    have HR := Lib.hid (rl0_e1 c0)
    have hcI : (0 : Int) < gC L := by omega
    clear c0 hnd0
    go_enter Tryz.func12, Tryz.ntmps12
    go_wp2_with fail
    refine HN0.out.mono ?_
    rintro e w1 ⟨rfl, rfl⟩
    go_wp2_with fail
    go_ret2
    exact ⟨.slice none 0 0, by rw [HR.out]; rfl, by rw [HR.out]; exact NIL.out _, Below.refl _ _⟩
  obtain ⟨a1, a2, a3⟩ := hnd0 c0
  have hcI : ¬ (0 : Int) < gC L := by omega
  have hr0 := rl0_go c0 a1.symm
  rw [c0] at HN0
  generalize nAt L.length 0 L = p1 at *
  have HR0 := Lib.hid hr0
  have hml := HGN.out L
  generalize gN L = many at *
  clear hnd0 a1 hr0 c0 hgc0 a3
  go_enter Tryz.func12, Tryz.ntmps12
  go_wp2_with fail
  refine HN0.out.mono ?_
  rintro e w1 ⟨rfl, rfl⟩
  clear HN0
  go_wp2_with fail
  go_loopw [5, 7, 8, 9, 10, 11, 12, 13] (fun t o i _ _ _ _ _ wr => ∃ (k p : Nat) (out : List PL), i = .int .i64 k ∧ k ≤ many ∧ t = .int .i64 p ∧ p ≤ L.length ∧ out.length = k ∧ k ≤ p ∧ (∀ x ∈ out, x.n.length ≤ 20000) ∧ rl0 L = rlLoop (many - k) (L.drop p) 0 out ∧
    wr.ownsRow w.heap.size 62 3 o k (mcells (out.map PL.pm)) ∧ Below w.heap.size w wr) (fun _ _ i _ _ _ _ _ _ => many - (intOf i).toNat)
  case atStart => exact ⟨0, p1, [], rfl, by omega, rfl, a2, rfl, by omega, by simp, HR0.out, World.ownsRow_nil _ _ _ _, Below.refl _ _⟩
  case round =>
    obtain ⟨k, p, out, rfl, hk, rfl, hp, hok, hkp, hnm, hrd, hown, bel⟩ := hrel
    have HRD := Lib.hid hrd
    have HOK := Lib.hid hok
    have HNM := Lib.hid hnm
    clear hrd hok hnm HR0 a2
    by_cases hlt : k < many
    · have hltI : (k : Int) < many := by omega
      have STEP := HRD.out.trans (rlLoop_step (by omega) (L.drop p) out)
      have HST := Lib.hid STEP
      have KK := Lib.hid (show k + 1 ≤ many ∧ many - (k + 1) = many - k - 1 by omega)
      have ERR := Lib.hid (fun (c : Nat) (h : (rdLn (L.drop p)).2.2 = c) (hc : c ≠ 0) => readLn_err (HST.out.trans (by rw [h])) hc)
      have T0 := HTO.out p wr hp
      have TDR := Lib.hid (HTD.out p)
      have h20 := (tT_len (L.drop p)).1
      generalize hl0 : L.drop p = l0 at *
      have HT0 := Lib.hid T0
      have htc := HTC.out l0
      have OWN := Lib.hid hown
      have BEL := Lib.hid bel
      clear STEP T0 hl0
      by_cases ct : tC l0 = 0
      case neg =>
        have HR := Lib.hid (ERR.out _ (rdLn_e1 ct) ct)
        have hcn : (0 : Int) < tC l0 := by omega
        clear ct
        go_wp2_with fail
        refine HT0.out.mono ?_
        rintro e w1 ⟨rfl, rfl⟩
        go_wp2_with fail
        go_ret2
        exact ⟨.slice none 0 0, by rw [HR.out]; rfl, by rw [HR.out]; exact NIL.out _, BEL.out⟩
      obtain ⟨f1, f2, f3⟩ := TDR.out ct
      have hcn : ¬ (0 : Int) < tC l0 := by omega
      have N1 := HNO.out (tAt L.length p l0) wr f2
      have NDR := Lib.hid (HND.out (tAt L.length p l0))
      rw [f1] at N1 NDR
      generalize tAt L.length p l0 = q1 at *
      generalize hl1 : tR l0 = l1 at *
      have HN1 := Lib.hid N1
      have hg1 := HGC.out l1
      clear f1 N1
      by_cases c1 : gC l1 = 0
      case neg =>
        have HR := Lib.hid (ERR.out _ (rdLn_e2 ct hl1 c1) c1)
        have hcn1 : (0 : Int) < gC l1 := by omega
        clear c1
        go_wp2_with fail
        refine HT0.out.mono ?_
        rintro e w1 ⟨rfl, rfl⟩
        go_wp2_with fail
        refine HN1.out.mono ?_
        rintro e w1 ⟨rfl, rfl⟩
        go_wp2_with fail
        go_ret2
        exact ⟨.slice none 0 0, by rw [HR.out]; rfl, by rw [HR.out]; exact NIL.out _, BEL.out⟩
      obtain ⟨f1, f4, f5⟩ := NDR.out c1
      have hcn1 : ¬ (0 : Int) < gC l1 := by omega
      have N2 := HNO.out (nAt L.length q1 l1) wr f4
      have NDR2 := Lib.hid (HND.out (nAt L.length q1 l1))
      rw [f1] at N2 NDR2
      generalize nAt L.length q1 l1 = q2 at *
      generalize hl2 : gR l1 = l2 at *
      have HN2 := Lib.hid N2
      have hg2 := HGC.out l2
      clear f1 N2
      by_cases c2 : gC l2 = 0
      case neg =>
        have HR := Lib.hid (ERR.out _ (rdLn_e3 ct hl1 c1 hl2 c2) c2)
        have hcn2 : (0 : Int) < gC l2 := by omega
        clear c2
        go_wp2_with fail
        refine HT0.out.mono ?_
        rintro e w1 ⟨rfl, rfl⟩
        go_wp2_with fail
        refine HN1.out.mono ?_
        rintro e w1 ⟨rfl, rfl⟩
        go_wp2_with fail
        refine HN2.out.mono ?_
        rintro e w1 ⟨rfl, rfl⟩
        go_wp2_with fail
        go_ret2
        exact ⟨.slice none 0 0, by rw [HR.out]; rfl, by rw [HR.out]; exact NIL.out _, BEL.out⟩
      obtain ⟨f1, f6, f7⟩ := NDR2.out c2
      have hcn2 : ¬ (0 : Int) < gC l2 := by omega
      generalize nAt L.length q2 l2 = q3 at *
      have hall := rdLn_all ct hl1 c1 hl2 c2 f1.symm
      have hx1 := HGN.out l1
      have hx2 := HGN.out l2
      rw [hall] at HST ERR
      simp only [] at HST ERR
      generalize gN l1 = x1 at *
      generalize gN l2 = x2 at *
      generalize tT l0 = x0 at *
      rw [ct] at HT0
      rw [c1] at HN1
      rw [c2] at HN2
      clear hall f1 ct c1 c2 hl1 hl2 TDR NDR NDR2
      by_cases htop : 4294967295 < x2
      · have htI : (4294967295 : Int) < x2 := by omega
        have HR := Lib.hid (ERR.out 1 (by rw [if_pos htop]) (by decide))
        clear HST ERR htop
        go_wp2_with fail
        refine HT0.out.mono ?_
        rintro e w1 ⟨rfl, rfl⟩
        go_wp2_with fail
        refine HN1.out.mono ?_
        rintro e w1 ⟨rfl, rfl⟩
        go_wp2_with fail
        refine HN2.out.mono ?_
        rintro e w1 ⟨rfl, rfl⟩
        go_wp2_with fail
        go_ret2
        exact ⟨.slice none 0 0, by rw [HR.out]; rfl, by rw [HR.out]; exact NIL.out _, BEL.out⟩
      · have htI : ¬ (4294967295 : Int) < x2 := by omega
        rw [if_neg htop] at HST
        have hx4 : x2 % 4294967296 = x2 := by omega
        rw [hx4] at HST
        clear ERR htop hx4
        have hbs := bel.size
        have HM1 : Hid (k + 1 ≤ maxLen) := by show _ ≤ _; unfold maxLen; omega
        have HM2 : Hid ((k + 1) * 32 ≤ 140737488355328) := by show _ ≤ _; omega
        obtain ⟨va, vc, rfl⟩ := owns_slice hown
        clear hown bel
        go_wp2_with fail
        refine HT0.out.mono ?_
        rintro e w1 ⟨rfl, rfl⟩
        go_wp2_with fail
        refine HN1.out.mono ?_
        rintro e w1 ⟨rfl, rfl⟩
        go_wp2_with fail
        refine HN2.out.mono ?_
        rintro e w1 ⟨rfl, rfl⟩
        go_wp2_with (at_builtin; refine wpList_append_own _ rfl _ _ 22 rfl w.heap.size 62 i0 _ 3 32 Tryz.underlying22 hi hz0 hz1 hz2 rfl (by decide) _ _ _ rfl (OWN.out.alloc _) ⟨wr.heap.size, 0, none⟩ 1 1 [.string (bs x0), .int .i64 x1, .int .i64 x2] rfl rfl (three_newsL (heap_alloc_new _ _)) (fun u hu => by simp at hu; rcases hu with rfl | rfl | rfl <;> rfl) HM1.out HM2.out (by have := BEL.out.size; simp; omega) ?_; intro v' w5 hown' hgrow _)
        have bel5 := (BEL.out.alloc BEL.out.size (.cells #[.string (bs x0), .int .i64 x1, .int .i64 x2] 62)).grown hgrow (by simp; omega) (fun j hj => (OWN.out.lt j hj).1)
        have hcells : mcells ((out ++ [(⟨x0, x1, x2⟩ : PL)]).map PL.pm) = mcells (out.map PL.pm) ++ [.string (bs x0), .int .i64 x1, .int .i64 x2] := by
          rw [List.map_append, mcells_append]; rfl
        go_roundw
        case rel => exact ⟨k + 1, q3, out ++ [⟨x0, x1, x2⟩], by go_num, KK.out.1, rfl, f6, by simp [HOK.out], by omega, (fun x hx => by rcases List.mem_append.1 hx with hx | hx; exact HNM.out x hx; rw [List.mem_singleton] at hx; subst hx; exact h20), by rw [KK.out.2]; exact HST.out, by rw [hcells]; exact hown', bel5⟩
        case measure => simp [intOf]; omega
    · have hltI : ¬ (k : Int) < many := by omega
      have hEX : rl0 L = (out, L.drop p, 0) := by
        rw [HRD.out, show many - k = 0 by omega, rlLoop_end]
      have HEX := Lib.hid hEX
      clear hEX
      obtain ⟨A, cap, hv⟩ := owns_slice hown
      rw [hv] at hown ⊢
      have OWN := Lib.hid hown
      clear hown hv
      by_cases hend : p = L.length
      · have hpb : ((p : Int) == (L.length : Int)) = true := by rw [beq_iff_eq]; omega
        have hdn : L.drop p = [] := List.drop_eq_nil_of_le (by omega)
        rw [hdn] at HEX
        have SF := linesFault_any (out.map PL.pm) _ wr (SliceIs.ownedK OWN.out) (fun x hx => by obtain ⟨y, hy, rfl⟩ := List.mem_map.1 hx; have := HNM.out y hy; show y.n.length ≤ _; omega)
        rw [pm_pl, rfv_is] at SF
        have HSF := Lib.hid SF
        clear SF hdn hend
        by_cases hc : (lnFault out).1 = 0
        · have HR := Lib.hid (readLn_ok HEX.out rEnd_nil hc)
          have hcI : ¬ (0 : Int) < (lnFault out).1 := by omega
          clear hc
          generalize lnFault out = cc at *
          go_wp2_with fail
          refine HSF.out.mono ?_
          rintro e w5 ⟨rfl, b5⟩
          go_wp2_with fail
          go_ret2
          exact ⟨.slice A k cap, by rw [HR.out]; rfl, by rw [HR.out]; exact SliceIs.ownedK (owns_below OWN.out (below_trans' b5 (below_one _ _))), below_trans' bel (below_trans' b5 (below_one _ _))⟩
        · have HR := Lib.hid (readLn_bad HEX.out rEnd_nil hc)
          have hcI : (0 : Int) < (lnFault out).1 := by omega
          clear hc
          generalize lnFault out = cc at *
          go_wp2_with fail
          refine HSF.out.mono ?_
          rintro e w5 ⟨rfl, b5⟩
          go_wp2_with fail
          go_quiet (fail)
          go_wp2_with fail
          go_ret2
          exact ⟨.slice none 0 0, by rw [HR.out]; rfl, by rw [HR.out]; exact NIL.out _, below_drewN (below_trans' bel (below_trans' b5 (below_one _ _))) _⟩
      · have hpb : ((p : Int) == (L.length : Int)) = false := by rw [beq_eq_false_iff_ne]; omega
        have hne : L.drop p ≠ [] := by intro h; have := congrArg List.length h; simp at this; omega
        have hr := readLn_end HEX.out (by rw [rEnd_some hne]; decide)
        rw [rEnd_some hne] at hr
        have HR := Lib.hid hr
        clear hr hne hend
        go_wp2_with fail
        go_ret2
        exact ⟨.slice none 0 0, by rw [HR.out]; rfl, by rw [HR.out]; exact NIL.out _, bel⟩
end Go.Proofs.YtapdfgnfblkncaaGreatDoor
