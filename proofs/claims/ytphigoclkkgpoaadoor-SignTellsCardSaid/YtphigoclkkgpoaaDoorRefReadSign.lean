/- Contract of the document's ReadSign. -/
import Derived.Test.YtphigoclkkgpoaaDoorRefSign2
import Derived.Test.YtphigoclkkgpoaaDoorRefTextOf
namespace Go.Proofs.YtphigoclkkgpoaaDoor
open Go.RowKit
set_option linter.unusedVariables false

theorem readSg_err {L l : List UInt8} {f c : Nat} {out : List Blk} (h : rd0 L = rdLoop f l c out) (hc : c ≠ 0) : readSg L = ([], 0, c) := by
  rw [rdLoop_err f l hc] at h
  have e := rEnd_err l hc
  rw [readSg_end h (by rw [e]; exact hc), e]
theorem rd0_e1 {L : List UInt8} (h : gC L ≠ 0) : readSg L = ([], 0, gC L) := by
  have h0 := rd0_is (L := L) rfl rfl rfl rfl
  rw [(rn_zero L).2.2] at h0
  rw [(rn_err _ h).2.2] at h0
  exact readSg_err h0 h
theorem rd0_e2 {L l1 : List UInt8} (h0 : gC L = 0) (h1 : gR L = l1) (h : gC l1 ≠ 0) : readSg L = ([], 0, gC l1) := by
  have hh := rd0_is (L := L) rfl rfl rfl rfl
  rw [(rn_zero L).2.2, (rn_zero L).2.1, h0, h1, (rn_zero l1).2.2] at hh
  exact readSg_err hh h
theorem rd0_go {L l1 l2 : List UInt8} (h0 : gC L = 0) (h1 : gR L = l1) (h2 : gC l1 = 0) (h3 : gR l1 = l2) : rd0 L = rdLoop (gN l1) l2 0 [] ∧ rnN L 0 = gN L := by
  have hh := rd0_is (L := L) rfl rfl rfl rfl
  rw [(rn_zero L).2.2, (rn_zero L).2.1, h0, h1, (rn_zero l1).2.2, (rn_zero l1).2.1, (rn_zero l1).1, h2, h3] at hh
  exact ⟨hh, (rn_zero L).1⟩
theorem rdBlk_e1 {l : List UInt8} (h : gC l ≠ 0) : (rdBlk l).2.2 = gC l := by
  rw [rdBlk_is l _ _ _ _ rfl rfl rfl rfl]
  rw [(rn_zero l).2.2, (rn_err _ h).2.2, (rn_err _ h).2.2]
  simp [h]
theorem rdBlk_e2 {l l1 : List UInt8} (h0 : gC l = 0) (h1 : gR l = l1) (h : gC l1 ≠ 0) : (rdBlk l).2.2 = gC l1 := by
  rw [rdBlk_is l _ _ _ _ rfl rfl rfl rfl]
  rw [(rn_zero l).2.2, (rn_zero l).2.1, h0, h1, (rn_zero l1).2.2, (rn_err _ h).2.2]
  simp [h]
theorem rdBlk_e3 {l l1 l2 : List UInt8} (h0 : gC l = 0) (h1 : gR l = l1) (h2 : gC l1 = 0) (h3 : gR l1 = l2) (h : gC l2 ≠ 0) : (rdBlk l).2.2 = gC l2 := by
  rw [rdBlk_is l _ _ _ _ rfl rfl rfl rfl]
  rw [(rn_zero l).2.2, (rn_zero l).2.1, h0, h1, (rn_zero l1).2.2, (rn_zero l1).2.1, h2, h3, (rn_zero l2).2.2]
  simp [h]
theorem rdBlk_all {l l1 l2 l3 : List UInt8} (h0 : gC l = 0) (h1 : gR l = l1) (h2 : gC l1 = 0) (h3 : gR l1 = l2) (h4 : gC l2 = 0) (h5 : gR l2 = l3) :
    rdBlk l = (⟨gN l, gN l1, gN l2 % 4294967296⟩, l3, if 4294967295 < gN l2 then 1 else 0) := by
  rw [rdBlk_is l _ _ _ _ rfl rfl rfl rfl]
  rw [(rn_zero l).2.2, (rn_zero l).2.1, (rn_zero l).1, h0, h1, (rn_zero l1).2.2, (rn_zero l1).2.1, (rn_zero l1).1, h2, h3, (rn_zero l2).2.2, (rn_zero l2).2.1, (rn_zero l2).1, h4, h5]
  simp

set_option maxRecDepth 100000 in
set_option maxHeartbeats 6400000 in
theorem rreadsign_any (L : List UInt8) (w : World) (hs : L.length ≤ 1000000) :
    Calls Tryd.prog 46 #[.string (bs L)] w fun e w' => ∃ v, e = .returned (.tuple #[v, .int .i64 (readSg L).2.1, .int .i64 (readSg L).2.2]) ∧
      w'.ownsRow w.heap.size 33 3 v (readSg L).1.length (bcells (readSg L).1) ∧ Below w.heap.size w w' := by
  obtain ⟨i0, hi, hz0, hz1, hz2⟩ := info_parts info_blk
  have NO := fun (p : Nat) (w' : World) (hp : p ≤ L.length) => rnumof_any (bs L) p w' (by rw [bs_size]; omega) (by rw [bs_size]; exact hp)
  simp only [bs_list, bs_size] at NO
  have ND := fun (p : Nat) (h : gC (L.drop p) = 0) => nAt_drop (s := L) (at' := p) h
  have HNO := Lib.hid NO
  have HND := Lib.hid ND
  have NIL := Lib.hid (fun (w' : World) => show w'.ownsRow w.heap.size 33 3 (.slice none 0 0) 0 (bcells []) by rw [bcells_nil]; exact World.ownsRow_nil _ _ _ _)
  have hgc := fun l => gC_cases l
  have HGC := Lib.hid (fun l => show gC l ≤ 2 by have := gC_cases l; omega)
  have HGN := Lib.hid gN_le
  have N0 := NO 0 w (by omega)
  rw [List.drop_zero] at N0
  have HN0 := Lib.hid N0
  have hnd0 := fun (h : gC L = 0) => ND 0 (by rw [List.drop_zero]; exact h)
  rw [List.drop_zero] at hnd0
  have hgc0 := HGC.out L
  clear NO ND hgc N0
  by_cases c0 : gC L = 0
  · obtain ⟨a1, a2, a3⟩ := hnd0 c0
    have hcI : ¬ (0 : Int) < gC L := by omega
    generalize nAt L.length 0 L = p1 at *
    have N1 := HNO.out p1 w a2
    obtain ⟨l1, e1⟩ : ∃ l1, l1 = L.drop p1 := ⟨_, rfl⟩
    rw [← e1] at N1 a1
    have HN1 := Lib.hid N1
    have hgc1 := HGC.out l1
    have hml := HGN.out l1
    by_cases c1 : gC l1 = 0
    · obtain ⟨b1, b2, b3⟩ := HND.out p1 (by rw [← e1]; exact c1)
      rw [← e1] at b1 b2 b3
      have hcI1 : ¬ (0 : Int) < gC l1 := by omega
      obtain ⟨hr0, hsz⟩ := rd0_go c0 a1.symm c1 b1.symm
      rw [c0] at HN0
      rw [c1] at HN1
      generalize nAt L.length p1 l1 = p2 at *
      have HR0 := Lib.hid hr0
      have HSZ := Lib.hid hsz
      have hsl := HGN.out L
      generalize gN l1 = many at *
      generalize gN L = size at *
      have HE1 := Lib.hid e1
      clear hnd0 a1 b1 hr0 hsz N1 c0 c1 hgc0 hgc1 e1 b3 a3
      go_enter Tryd.func46, Tryd.ntmps46
      go_wp2_with fail
      refine HN0.out.mono ?_
      rintro e w1 ⟨rfl, rfl⟩
      go_wp2_with fail
      refine HN1.out.mono ?_
      rintro e w1 ⟨rfl, rfl⟩
      go_wp2_with fail
      go_loopw [6, 9, 10, 11, 12, 13, 14, 15] (fun t o i _ _ _ _ _ wr => ∃ (k p : Nat) (out : List Blk), i = .int .i64 k ∧ k ≤ many ∧ t = .int .i64 p ∧ p ≤ L.length ∧ out.length = k ∧ k ≤ p ∧ rd0 L = rdLoop (many - k) (L.drop p) 0 out ∧
        wr.ownsRow w.heap.size 33 3 o k (bcells out) ∧ Below w.heap.size w wr) (fun _ _ i _ _ _ _ _ _ => many - (intOf i).toNat)
      case atStart => exact ⟨0, p2, [], rfl, by omega, rfl, b2, rfl, by omega, HR0.out, NIL.out _, Below.refl _ _⟩
      case round =>
        obtain ⟨k, p, out, rfl, hk, rfl, hp, hok, hkp, hrd, hown, bel⟩ := hrel
        have HRD := Lib.hid hrd
        have HOK := Lib.hid hok
        clear hrd hok
        by_cases hlt : k < many
        · have hltI : (k : Int) < many := by omega
          have STEP := HRD.out.trans (rdLoop_step (by omega) (L.drop p) out)
          have HST := Lib.hid STEP
          have KK := Lib.hid (show k + 1 ≤ many ∧ many - (k + 1) = many - k - 1 by omega)
          have ERR := Lib.hid (fun (c : Nat) (h : (rdBlk (L.drop p)).2.2 = c) (hc : c ≠ 0) => readSg_err (HST.out.trans (by rw [h])) hc)
          obtain ⟨l0, hl0⟩ : ∃ l0, l0 = L.drop p := ⟨_, rfl⟩
          rw [← hl0] at HST ERR
          have HL0 := Lib.hid hl0
          clear STEP hl0
          have OWN := Lib.hid hown
          have BEL := Lib.hid bel
          go_wp2_with fail
          go_loopw [6, 12, 13, 14, 15] (fun t j _ _ _ wi => ∃ (q : Nat) (x0 x1 x2 : Nat), t = .int .i64 q ∧ q ≤ L.length ∧ wi = wr.alloc (.cells #[.int .i64 x0, .int .i64 x1, .int .i64 x2] 126) ∧
            ((j = .int .i64 0 ∧ q = p ∧ x0 = 0 ∧ x1 = 0 ∧ x2 = 0) ∨
             (j = .int .i64 1 ∧ p < q ∧ gC l0 = 0 ∧ L.drop q = gR l0 ∧ x0 = gN l0 ∧ x1 = 0 ∧ x2 = 0) ∨
             (j = .int .i64 2 ∧ p < q ∧ gC l0 = 0 ∧ gC (gR l0) = 0 ∧ L.drop q = gR (gR l0) ∧ x0 = gN l0 ∧ x1 = gN (gR l0) ∧ x2 = 0) ∨
             (j = .int .i64 3 ∧ p < q ∧ gC l0 = 0 ∧ gC (gR l0) = 0 ∧ gC (gR (gR l0)) = 0 ∧ L.drop q = gR (gR (gR l0)) ∧ x0 = gN l0 ∧ x1 = gN (gR l0) ∧ x2 = gN (gR (gR l0))))) (fun _ j _ _ _ _ => 3 - (intOf j).toNat)
          case atStart => exact ⟨p, 0, 0, 0, rfl, hp, rfl, .inl ⟨rfl, rfl, rfl, rfl, rfl⟩⟩
          case round =>
            obtain ⟨q, x0, x1, x2, rfl, hq, rfl, hcase⟩ := hrel
            rcases hcase with ⟨rfl, rfl, rfl, rfl, rfl⟩ | ⟨rfl, hpq, g0, hd, rfl, rfl, rfl⟩ | ⟨rfl, hpq, g0, g1, hd, rfl, rfl, rfl⟩ | ⟨rfl, hpq, g0, g1, g2, hd, rfl, rfl, rfl⟩
            · have N := HNO.out q (wr.alloc (.cells #[.int .i64 ((0 : Nat) : Int), .int .i64 ((0 : Nat) : Int), .int .i64 ((0 : Nat) : Int)] 126)) hq
              rw [← HL0.out] at N
              have HN := Lib.hid N
              have hg := HGC.out l0
              clear N
              by_cases c : gC l0 = 0
              · obtain ⟨f1, f2, f3⟩ := HND.out q (by rw [← HL0.out]; exact c)
                rw [← HL0.out] at f1 f2 f3
                have HF := Lib.hid f1
                have HC := Lib.hid c
                have hcn : ¬ (0 : Int) < gC l0 := by omega
                clear f1 c
                go_wp2_with fail
                refine HN.out.mono ?_
                rintro e w1 ⟨rfl, rfl⟩
                go_wp2_with fail
                go_roundw
                case rel => exact ⟨_, gN l0, 0, 0, rfl, f2, by first | rfl | trivial, .inr (.inl ⟨by first | rfl | go_num, f3, HC.out, HF.out, rfl, rfl, rfl⟩)⟩
                case measure => simp [intOf]
              · have HR := Lib.hid (ERR.out _ (rdBlk_e1 c) c)
                have hcn : (0 : Int) < gC l0 := by omega
                clear c
                go_wp2_with fail
                refine HN.out.mono ?_
                rintro e w1 ⟨rfl, rfl⟩
                go_wp2_with fail
                go_ret3
                exact ⟨.slice none 0 0, by rw [HR.out]; rfl, by rw [HR.out]; exact NIL.out _, BEL.out.alloc BEL.out.size _⟩
            · have N := HNO.out q (wr.alloc (.cells #[.int .i64 (gN l0), .int .i64 ((0 : Nat) : Int), .int .i64 ((0 : Nat) : Int)] 126)) hq
              rw [hd] at N
              have HN := Lib.hid N
              have hg := HGC.out (gR l0)
              have HG0 := Lib.hid g0
              have HD := Lib.hid hd
              clear N g0 hd
              by_cases c : gC (gR l0) = 0
              · obtain ⟨f1, f2, f3⟩ := HND.out q (by rw [HD.out]; exact c)
                rw [HD.out] at f1 f2 f3
                have HF := Lib.hid f1
                have HC := Lib.hid c
                have hcn : ¬ (0 : Int) < gC (gR l0) := by omega
                clear f1 c
                go_wp2_with fail
                refine HN.out.mono ?_
                rintro e w1 ⟨rfl, rfl⟩
                go_wp2_with fail
                go_roundw
                case rel => exact ⟨_, gN l0, gN (gR l0), 0, rfl, f2, by first | rfl | trivial, .inr (.inr (.inl ⟨by first | rfl | go_num, by omega, HG0.out, HC.out, HF.out, rfl, rfl, rfl⟩))⟩
                case measure => simp [intOf]
              · have HR := Lib.hid (ERR.out _ (rdBlk_e2 HG0.out rfl c) c)
                have hcn : (0 : Int) < gC (gR l0) := by omega
                clear c
                go_wp2_with fail
                refine HN.out.mono ?_
                rintro e w1 ⟨rfl, rfl⟩
                go_wp2_with fail
                go_ret3
                exact ⟨.slice none 0 0, by rw [HR.out]; rfl, by rw [HR.out]; exact NIL.out _, BEL.out.alloc BEL.out.size _⟩
            · have N := HNO.out q (wr.alloc (.cells #[.int .i64 (gN l0), .int .i64 (gN (gR l0)), .int .i64 ((0 : Nat) : Int)] 126)) hq
              rw [hd] at N
              have HN := Lib.hid N
              have hg := HGC.out (gR (gR l0))
              have HG0 := Lib.hid g0
              have HG1 := Lib.hid g1
              have HD := Lib.hid hd
              clear N g0 g1 hd
              by_cases c : gC (gR (gR l0)) = 0
              · obtain ⟨f1, f2, f3⟩ := HND.out q (by rw [HD.out]; exact c)
                rw [HD.out] at f1 f2 f3
                have HF := Lib.hid f1
                have HC := Lib.hid c
                have hcn : ¬ (0 : Int) < gC (gR (gR l0)) := by omega
                clear f1 c
                go_wp2_with fail
                refine HN.out.mono ?_
                rintro e w1 ⟨rfl, rfl⟩
                go_wp2_with fail
                go_roundw
                case rel => exact ⟨_, gN l0, gN (gR l0), gN (gR (gR l0)), rfl, f2, by first | rfl | trivial, .inr (.inr (.inr ⟨by first | rfl | go_num, by omega, HG0.out, HG1.out, HC.out, HF.out, rfl, rfl, rfl⟩))⟩
                case measure => simp [intOf]
              · have HR := Lib.hid (ERR.out _ (rdBlk_e3 HG0.out rfl HG1.out rfl c) c)
                have hcn : (0 : Int) < gC (gR (gR l0)) := by omega
                clear c
                go_wp2_with fail
                refine HN.out.mono ?_
                rintro e w1 ⟨rfl, rfl⟩
                go_wp2_with fail
                go_ret3
                exact ⟨.slice none 0 0, by rw [HR.out]; rfl, by rw [HR.out]; exact NIL.out _, BEL.out.alloc BEL.out.size _⟩
            · have hall := rdBlk_all g0 rfl g1 rfl g2 rfl
              have hx2 := HGN.out (gR (gR l0))
              rw [hall] at HST ERR
              simp only [] at HST ERR
              rw [← hd] at HST
              generalize gN l0 = x0 at *
              generalize gN (gR l0) = x1 at *
              generalize gN (gR (gR l0)) = x2 at *
              clear hall g0 g1 g2 hd
              by_cases htop : 4294967295 < x2
              · have htI : (4294967295 : Int) < x2 := by omega
                have HR := Lib.hid (ERR.out 1 (by rw [if_pos htop]) (by decide))
                clear HST ERR htop
                go_wp2_with fail
                go_ret3
                exact ⟨.slice none 0 0, by rw [HR.out]; rfl, by rw [HR.out]; exact NIL.out _, BEL.out.alloc BEL.out.size _⟩
              · have htI : ¬ (4294967295 : Int) < x2 := by omega
                rw [if_neg htop] at HST
                have hx3 : (x2 : Int) % 4294967296 = x2 := by omega
                have hx4 : x2 % 4294967296 = x2 := by omega
                rw [hx4] at HST
                clear ERR htop hx4
                have B1 := Lib.hid (BEL.out.alloc BEL.out.size (.cells #[.int .i64 x0, .int .i64 x1, .int .i64 x2] 126))
                have OWN1 := Lib.hid (OWN.out.alloc (.cells #[.int .i64 x0, .int .i64 x1, .int .i64 x2] 126))
                have hsz1 : (wr.alloc (.cells #[.int .i64 x0, .int .i64 x1, .int .i64 x2] 126)).heap.size = wr.heap.size + 1 := by simp
                have HSZ1 := Lib.hid hsz1
                have NEWH : Hid (((wr.alloc (.cells #[.int .i64 x0, .int .i64 x1, .int .i64 x2] 126)).alloc (.cells #[.int .i64 x0, .int .i64 x1, .int .u32 x2] 33)).heap[wr.heap.size + 1]? = some (.cells #[.int .i64 x0, .int .i64 x1, .int .u32 x2] 33 (0, 0))) := by
                  have h := heap_alloc_new (wr.alloc (.cells #[.int .i64 x0, .int .i64 x1, .int .i64 x2] 126)) (.cells #[.int .i64 x0, .int .i64 x1, .int .u32 x2] 33)
                  rw [hsz1] at h
                  exact h
                have hbs := bel.size
                clear hown bel hsz1
                go_wp2_with (at_builtin; refine wpList_append_own _ rfl _ _ 23 rfl w.heap.size 33 i0 _ 3 24 Tryd.underlying23 hi hz0 hz1 hz2 rfl (by decide) _ _ _ rfl (OWN1.out.alloc _) ⟨wr.heap.size + 1, 0, none⟩ 1 1 [.int .i64 x0, .int .i64 x1, .int .u32 x2] rfl rfl (three_news NEWH.out) (fun u hu => by simp at hu; rcases hu with rfl | rfl | rfl <;> rfl) (by unfold maxLen; omega) (by omega) (by simp; omega) ?_; intro v' w5 hown' hgrow _)
                have bel5 := (B1.out.alloc B1.out.size (.cells #[.int .i64 x0, .int .i64 x1, .int .u32 x2] 33)).grown hgrow (by simp; omega) (fun j hj => (OWN.out.lt j hj).1)
                have hcells : bcells (out ++ [⟨x0, x1, x2⟩]) = bcells out ++ [.int .i64 x0, .int .i64 x1, .int .u32 x2] := by
                  rw [bcells_append, bcells_one]; simp only [Blk.cells]
                go_roundw
                case rel => exact ⟨k + 1, q, out ++ [⟨x0, x1, x2⟩], by go_num, KK.out.1, rfl, hq, by simp [HOK.out], by omega, by rw [KK.out.2]; exact HST.out, by rw [hcells]; exact hown', bel5⟩
                case measure => simp [intOf]; omega
        · have hltI : ¬ (k : Int) < many := by omega
          have hEX : rd0 L = (out, L.drop p, 0) := by
            rw [HRD.out, show many - k = 0 by omega, rdLoop_end]
          have HEX := Lib.hid hEX
          clear hEX
          obtain ⟨A, cap, hv⟩ := owns_slice hown
          rw [hv] at hown ⊢
          have OWN := Lib.hid hown
          clear hown hv
          by_cases hend : p = L.length
          · have hpb : ((p : Int) == (L.length : Int)) = true := by rw [beq_iff_eq]; omega
            have hdn : L.drop p = [] := List.drop_eq_nil_of_le (by omega)
            rw [hdn] at HEX
            have SF := rsf_any A k cap out size wr (SliceIs.ownedK OWN.out)
            rw [rfv_is] at SF
            have HSF := Lib.hid SF
            clear SF hdn hend
            by_cases hc : (chk out size).1 = 0
            · have hr := readSg_ok HEX.out rEnd_nil (by rw [HSZ.out]; exact hc)
              rw [HSZ.out] at hr
              have HR := Lib.hid hr
              have hcI : ¬ (0 : Int) < (chk out size).1 := by omega
              clear hr hc
              generalize chk out size = cc at *
              go_wp2_with fail
              refine HSF.out.mono ?_
              rintro e w5 ⟨rfl, b5⟩
              go_wp2_with fail
              go_ret3
              exact ⟨.slice A k cap, by rw [HR.out]; rfl, by rw [HR.out]; simp only []; rw [HOK.out]; exact owns_below OWN.out (below_trans' b5 (below_one _ _)), below_trans' bel (below_trans' b5 (below_one _ _))⟩
            · have hr := readSg_bad HEX.out rEnd_nil (by rw [HSZ.out]; exact hc)
              rw [HSZ.out] at hr
              have HR := Lib.hid hr
              have hcI : (0 : Int) < (chk out size).1 := by omega
              clear hr hc
              generalize chk out size = cc at *
              go_wp2_with fail
              refine HSF.out.mono ?_
              rintro e w5 ⟨rfl, b5⟩
              go_wp2_with fail
              go_quiet (fail)
              go_wp2_with fail
              go_ret3
              exact ⟨.slice none 0 0, by rw [HR.out]; rfl, by rw [HR.out]; exact NIL.out _, below_drewN (below_trans' bel (below_trans' b5 (below_one _ _))) _⟩
          · have hpb : ((p : Int) == (L.length : Int)) = false := by rw [beq_eq_false_iff_ne]; omega
            have hne : L.drop p ≠ [] := by intro h; have := congrArg List.length h; simp at this; omega
            have hr := readSg_end HEX.out (by rw [rEnd_some hne]; decide)
            rw [rEnd_some hne] at hr
            have HR := Lib.hid hr
            clear hr hne hend
            go_wp2_with fail
            go_ret3
            exact ⟨.slice none 0 0, by rw [HR.out]; rfl, by rw [HR.out]; exact NIL.out _, bel⟩
    · have HR := Lib.hid (rd0_e2 c0 a1.symm c1)
      have hcI1 : (0 : Int) < gC l1 := by omega
      clear c1 a1 c0 e1
      go_enter Tryd.func46, Tryd.ntmps46
      go_wp2_with fail
      refine HN0.out.mono ?_
      rintro e w1 ⟨rfl, rfl⟩
      go_wp2_with fail
      refine HN1.out.mono ?_
      rintro e w1 ⟨rfl, rfl⟩
      go_wp2_with fail
      go_ret3
      exact ⟨.slice none 0 0, by rw [HR.out]; rfl, by rw [HR.out]; exact NIL.out _, Below.refl _ _⟩
  · have HR := Lib.hid (rd0_e1 c0)
    have hcI : (0 : Int) < gC L := by omega
    clear c0 hnd0
    go_enter Tryd.func46, Tryd.ntmps46
    go_wp2_with fail
    refine HN0.out.mono ?_
    rintro e w1 ⟨rfl, rfl⟩
    go_wp2_with fail
    go_ret3
    exact ⟨.slice none 0 0, by rw [HR.out]; rfl, by rw [HR.out]; exact NIL.out _, Below.refl _ _⟩
end Go.Proofs.YtphigoclkkgpoaaDoor
