/- SignTells: what package sign tells is the document's. -/
import Derived.Test.YtphigoclkkgpoaaDoorRefReadSign
import Derived.Test.YtphigoclkkgpoaaDoorRefSignText
import Derived.Test.YtphigoclkkgpoaaDoorSameOps
import Derived.Test.YtphigoclkkgpoaaDoorSignSizes
import Derived.Test.YtphigoclkkgpoaaDoorCodedYes
import Derived.Test.YtphigoclkkgpoaaDoorArgBlks
import Derived.Deep.RegionHeld3
namespace Go.Proofs.YtphigoclkkgpoaaDoor
open Go.RowKit
set_option linter.unusedVariables false

theorem chk_pair {l : List Blk} {size : Int} (h : (chk l size).1 = 0) : chk l size = (0, -1) := by
  have hA : ∀ (l : List Blk) (i : Nat) (all : Int), (chkA size l i all).1 = 0 → chkA size l i all = (0, -1) := by
    intro l
    induction l with
    | nil => intro i all _; rw [chkA]
    | cons b l ih =>
      intro i all h
      rw [chkA] at h ⊢
      split
      · rename_i hb; rw [if_pos hb] at h; simp at h
      · rename_i hb
        rw [if_neg hb] at h
        split
        · rename_i hf; rw [if_pos hf] at h; simp at h
        · rename_i hf; rw [if_neg hf] at h; exact ih _ _ h
  by_cases hs : 1 ≤ size ∧ size ≤ 64
  · rw [chk_yes hs] at h ⊢; exact hA _ _ _ h
  · rw [chk_no hs] at h; simp at h
theorem rEnd_le (l : List UInt8) (c : Nat) (h : c ≤ 12) : rEnd l c ≤ 12 := by
  by_cases hc : c = 0
  · subst hc
    by_cases hl : l = []
    · subst hl; rw [rEnd_nil]; omega
    · rw [rEnd_some hl]; omega
  · rw [rEnd_err l hc]; exact h
theorem rdBlk_code (l : List UInt8) : (rdBlk l).2.2 ≤ 12 := by
  have a := gC_cases l
  have b := gC_cases (gR l)
  have c := gC_cases (gR (gR l))
  by_cases h0 : gC l = 0
  · by_cases h1 : gC (gR l) = 0
    · by_cases h2 : gC (gR (gR l)) = 0
      · rw [rdBlk_all h0 rfl h1 rfl h2 rfl]; show (if _ then 1 else 0) ≤ 12; split <;> omega
      · rw [rdBlk_e3 h0 rfl h1 rfl h2]; omega
    · rw [rdBlk_e2 h0 rfl h1]; omega
  · rw [rdBlk_e1 h0]; omega
theorem rdLoop_code : ∀ (f : Nat) (l : List UInt8) (c : Nat) (out : List Blk), c ≤ 12 → (rdLoop f l c out).2.2 ≤ 12
  | 0, l, c, out, h => by rw [rdLoop_end]; exact h
  | f + 1, l, c, out, h => by
    by_cases hc : c = 0
    · subst hc; rw [rdLoop_step (by omega)]; exact rdLoop_code f _ _ _ (rdBlk_code l)
    · rw [rdLoop_err _ _ hc]; exact h
theorem readSg_code (T : List UInt8) : (readSg T).2.2 ≤ 12 := by
  have a := gC_cases T
  by_cases h0 : gC T = 0
  · have b := gC_cases (gR T)
    by_cases h1 : gC (gR T) = 0
    · have hg := (rd0_go h0 rfl h1 rfl).1
      have hcd := rdLoop_code (gN (gR T)) (gR (gR T)) 0 [] (by omega)
      rw [← hg] at hcd
      rcases hr : rd0 T with ⟨out, l, c⟩
      rw [hr] at hcd
      by_cases he : rEnd l c = 0
      · by_cases hk : (chk out (rnN T 0)).1 = 0
        · rw [readSg_ok hr he hk]; show 0 ≤ 12; omega
        · rw [readSg_bad hr he hk]; have := chk_code out (rnN T 0); show (chk out (rnN T 0)).1 ≤ 12; omega
      · rw [readSg_end hr he]; exact rEnd_le l c hcd
    · rw [rd0_e2 h0 rfl h1]; show gC (gR T) ≤ 12; omega
  · rw [rd0_e1 h0]; show gC T ≤ 12; omega
set_option maxRecDepth 100000 in
set_option maxHeartbeats 6400000 in
theorem signTells_walk (E : Nat → Addr) (a0 : ByteArray) (a1 : Int) (s2 : Option Addr) (n2 c2 : Nat) (a2 : List PBlk) (a3 : Int) (a4 : ByteArray) (w : World) (_ : a0.size ≤ maxLen) (_ : (Lit.int .i64 a1).wf = true) (hs : SliceIs w (.slice s2 n2 c2) PBlk.cells (a2.flatMap PBlk.vals) ∧ ∀ x ∈ a2, x.ok) (_ : (Lit.int .i64 a3).wf = true) (_ : a4.size ≤ maxLen) (hh : Hand w) (h1 : ∀ c ∈ [1, 2, 3, 4, 5, 6, 7, 8, 9, 10, 11, 12], Has E w c ∧ Sent w (E c)) (h2 : ∀ c ∈ [1, 2, 3, 4, 5, 6, 7, 8, 9, 10, 11, 12], ∀ c' ∈ [1, 2, 3, 4, 5, 6, 7, 8, 9, 10, 11, 12], c ≠ c' → E c ≠ E c') :
    Calls Tryd.prog 7 #[.string a0, .int .i64 a1, .slice s2 n2 c2, .int .i64 a3, .string a4] w fun e w' => e = .returned (.bool true) ∧ Below w.heap.size w w' := by
  have hE := Errs.of hh h1 h2
  have HE := Lib.hid hE
  have H1 := Lib.hid (hE.has 1 (by omega) (by omega))
  have H2 := Lib.hid (hE.has 2 (by omega) (by omega))
  have H8 := Lib.hid (hE.has 8 (by omega) (by omega))
  obtain ⟨hs, hok⟩ := hs
  rw [pvals_is] at hs
  obtain ⟨l, hl⟩ : ∃ l, l = a2.map PBlk.b := ⟨_, rfl⟩
  rw [← hl] at hs
  have hS : ∀ b ∈ l, b.S < 4294967296 := by
    intro b hb
    rw [hl] at hb
    obtain ⟨x, hx, rfl⟩ := List.mem_map.1 hb
    exact (hok x hx).2.2
  have hs : SliceIs w (.slice s2 n2 c2) 3 (bcells l) := hs
  obtain ⟨rfl, hc0, hc1⟩ := blks_sl hs
  have SG := Lib.hid (signed_ok w)
  have HS := Lib.hid hs
  have HSS := Lib.hid hS
  clear hh h1 h2 hE hs hS hl hok
  obtain ⟨S, rfl⟩ : ∃ S, a0 = bs S := ⟨a0.data.toList, (bs_of _).symm⟩
  obtain ⟨T, rfl⟩ : ∃ T, a4 = bs T := ⟨a4.data.toList, (bs_of _).symm⟩
  have CE2 : Hid (∀ w' : World, Errs E w' → Calls Tryd.prog 18 #[.iface 165 (.pointer (some (E 2))), .int .i64 2] w' fun e w'' => e = .returned (.bool true) ∧ Below w'.heap.size w' w'') := fun w' h => by
    have := coded_ev E 2 w' h (by omega)
    rw [ev_pos E (by decide)] at this
    exact this
  by_cases h0 : (S.length ≤ 300 ∨ S.length = 4001) ∧ l.length ≤ 40 ∧ T.length ≤ 400
  · obtain ⟨h0, h40, hT⟩ := h0
    have h40I : ¬ (40 : Int) < l.length := by omega
    have hTI : ¬ (400 : Int) < T.length := by omega
    have hS5 : S.length ≤ 5000 := by omega
    have hcode : (chk l a3).1 ≤ 8 := by have := chk_code l a3; omega
    have OB := Lib.hid (fun (w' : World) (b : Below w.heap.size w w') => ownBlocks_any s2 l.length c2 l w' (HS.out.below b) (by omega))
    have RSF := Lib.hid (fun (w' : World) (b : Below w.heap.size w w') => rsf_any s2 l.length c2 l a3 w' (HS.out.below b))
    simp only [rfv_is] at RSF
    have CK := Lib.hid (fun (w' : World) A cap (b : Below w.heap.size w w') h => check_any E A l.length cap l a3 w' h (H2.out.below b) (H8.out.below b))
    have RT := Lib.hid (fun (w' : World) (b : Below w.heap.size w w') (hok : (chk l a3).1 = 0) => rsigntext_any s2 l.length c2 l a3 w' (HS.out.below b) HSS.out hok)
    have TY := Lib.hid (fun (w' : World) A cap (b : Below w.heap.size w w') h (hok : (chk l a3).1 = 0) => stext_yes E A l.length cap l a3 w' h HSS.out (H2.out.below b) (H8.out.below b) hok)
    have TN := Lib.hid (fun (w' : World) A cap (b : Below w.heap.size w w') h (hok : (chk l a3).1 ≠ 0) => stext_no E A l.length cap l a3 w' h (H2.out.below b) (H8.out.below b) hok)
    have RD := fun (w' : World) (b : Below w.heap.size w w') => sread_any E (bs T) w' (by rw [bs_size]; omega) (H1.out.below b) (H2.out.below b) (H8.out.below b)
    simp only [bs_list] at RD
    have RR := fun (w' : World) => rreadsign_any T w' (by omega)
    have hrc : (readSg T).2.2 ≤ 12 := readSg_code T
    generalize readSg T = rs at *
    obtain ⟨rb, rn, rc⟩ := rs
    simp only [] at RD RR hrc
    have HRD := Lib.hid RD
    have HRR := Lib.hid RR
    have FI := fun (w' : World) A cap h => find_any A l.length cap l (bs S) w' (by rw [bs_size]; omega) h
    have RF := fun (w' : World) (b : Below w.heap.size w w') => rfind_any s2 l.length c2 l (bs S) w' (by rw [bs_size]; omega) (HS.out.below b)
    simp only [bs_list] at FI RF
    have HFI := Lib.hid FI
    have HRF := Lib.hid RF
    have SZ := Lib.hid (fun (w' : World) => size_any a3 w')
    have RZ := Lib.hid (fun (w' : World) => rsize_any a3 w')
    have HSF := Lib.hid (fun (h : (chk l a3).1 = 0) => show chk l a3 = (0, -1) from chk_pair h)
    generalize hck : chk l a3 = ck at *
    obtain ⟨code, at'⟩ := ck
    simp only [] at hcode RSF CK RT TY TN HSF
    have HCKE := Lib.hid hck
    clear hck RD RR FI RF
    by_cases hc : code = 0
    · subst hc
      have HC0 : Hid ((0 : Nat) = 0) := Lib.hid rfl
      rcases h0 with h300 | h4001
      · have h3I : ¬ (300 : Int) < S.length := by omega
        by_cases hz : 1 ≤ a1 ∧ a1 ≤ 64
        · obtain ⟨z, rfl⟩ : ∃ z : Nat, a1 = z := ⟨a1.toNat, by omega⟩
          have z1 : ¬ (z : Int) < 1 := by omega
          have z2 : ¬ (64 : Int) < z := by omega
          have z3 : ¬ (4000 : Int) < S.length := by omega
          have OF := fun w' => of_yes (bs S) z w' (by rw [bs_size]; omega) (by omega) (by omega)
          have RB := fun w' => rblocks_any (bs S) z w' (by rw [bs_size]; omega) (by omega) (by omega)
          simp only [bs_list] at OF RB
          have OF := Lib.hid OF
          have RB := Lib.hid RB
          go_enter Tryd.func7, Tryd.ntmps7
          go_wp2_with (go_at_call 37; refine SG.out.mono ?_; rintro e w0 ⟨rfl, b0⟩)
          refine (OF.out w0).mono ?_
          rintro e w1 ⟨v1, rfl, hown1, b1⟩
          have b01 := below_trans' b0 b1
          obtain ⟨A1, cap1, hv1⟩ := owns_slice hown1
          rw [hv1] at hown1 ⊢
          have HX1 := Lib.hid (SliceIs.ownedK hown1)
          clear hown1 hv1 b0 b1
          go_wp2_with fail
          refine (RB.out w1).mono ?_
          rintro e w2 ⟨v2, rfl, hown2, b2⟩
          have b02 := below_trans' b01 b2
          have HX2 := Lib.hid (HX1.out.below b2)
          obtain ⟨A2, cap2, hv2⟩ := owns_slice hown2
          rw [hv2] at hown2 ⊢
          have SB2 := sameBlocks_any _ _ _ _ _ _ (blks z S) (blks z S) w2 HX2.out (SliceIs.ownedK hown2)
          rw [sameB_yes rfl] at SB2
          have HSB2 := Lib.hid SB2
          clear hown2 hv2 b01 b2 HX1 HX2 SB2
          go_wp2_with fail
          refine HSB2.out.mono ?_
          rintro e w3 ⟨rfl, d3⟩
          have bx := below_trans' b02 (d3.below w2.heap.size)
          clear b02 d3 HSB2
          go_wp2_with fail
          refine (OB.out _ bx).mono ?_
          rintro e w4 ⟨v4, rfl, hown4, b4⟩
          have b04 := below_trans' bx b4
          obtain ⟨A4, cap4, hv4⟩ := owns_slice hown4
          rw [hv4] at hown4 ⊢
          have HO4 := Lib.hid (SliceIs.ownedK hown4)
          clear hown4 hv4 bx b4
          go_wp2_with fail
          refine (RSF.out w4 b04).mono ?_
          rintro e w5 ⟨rfl, b5⟩
          have b05 := below_trans' b04 b5
          have HO5 := Lib.hid (HO4.out.below b5)
          clear b04 b5 HO4
          have bf := below_one w5 (.cells #[.int .i64 ((0 : Nat) : Int), .int .i64 at'] 62)
          have hzf : (w5.alloc (.cells #[.int .i64 ((0 : Nat) : Int), .int .i64 at'] 62)).heap[w5.heap.size]? = some (.cells #[.int .i64 ((0 : Nat) : Int), .int .i64 at'] 62 (0, 0)) := heap_alloc_new _ _
          go_wp2_with fail
          have HO6 := Lib.hid (HO5.out.below bf)
          have b06 := below_trans' b05 bf
          generalize w5.heap.size = fb at *
          generalize w5.alloc (.cells #[.int .i64 ((0 : Nat) : Int), .int .i64 at'] 62) = w6 at *
          have FB := Lib.hid (fun (w' : World) (b : Below w6.heap.size w6 w') => show w'.cell? ⟨fb, 0, none⟩ = some (.int .i64 ((0 : Nat) : Int)) ∧ w'.cell? ⟨fb, 1, none⟩ = some (.int .i64 at') from by
            have h := (b.block fb (lt_of_block hzf)).trans hzf
            constructor <;> simp [World.cell?, h])
          clear bf hzf b05 HO5
          refine (TY.out w6 _ _ b06 HO6.out HC0.out).mono ?_
          rintro e w7 ⟨rfl, b7⟩
          have b67 := b7
          have DD : Hid (∀ w' : World, Below w6.heap.size w6 w' → (w'.cell? ⟨fb, 0, none⟩ = some (.int .i64 ((0 : Nat) : Int)) ∧ w'.cell? ⟨fb, 1, none⟩ = some (.int .i64 at')) ∧ Below w6.heap.size w6 w') := fun w' b => ⟨FB.out w' b, b⟩
          have S7 := DD.out w7 b67
          clear b7
          go_wp2_with fail
          go_region_held3 (fun w' => (w'.cell? ⟨fb, 0, none⟩ = some (.int .i64 ((0 : Nat) : Int)) ∧ w'.cell? ⟨fb, 1, none⟩ = some (.int .i64 at')) ∧ Below w6.heap.size w6 w') (first | assumption | exact S7 | exact DD.out _ (by assumption) | exact DD.out _ (Below.drew b67))
            (first
            | (go_at_call 43; refine (CK.out _ A4 cap4 ?_ ?_).mono ?_; (exact below_trans' b06 (by first | assumption | exact Below.drew b67)); (exact HO6.out.below (by first | assumption | exact Below.drew b67)); rintro e w8 ⟨v8, rfl, fe8, b8⟩; have bb8 := below_trans' (by first | assumption | exact Below.drew b67) b8; have SS8 := DD.out _ bb8)
            | (go_at_call 35; refine (faulted_yes E v8 0 at' _ fe8 ?_ (by omega)).mono ?_; (exact HE.out.below (below_trans' b06 (by assumption))); rintro e w9 ⟨rfl, b9⟩; have bb9 := below_trans' (by assumption) b9; have SS9 := DD.out _ bb9)
            | (go_at_call 18; refine (coded_yes E .nilIface 0 _ (FErr.nil E _) ?_ (by omega)).mono ?_; (exact HE.out.below (below_trans' b06 (by assumption))); rintro e wa ⟨rfl, ba⟩; have bba := below_trans' (by assumption) ba; have SSa := DD.out _ bba))
          have b0a := below_trans' b06 bba
          have b6a := bba
          have HOa := Lib.hid (HO6.out.below bba)
          obtain ⟨d0, d1⟩ := FB.out wa b6a
          go_wp2_with fail
          refine (RT.out wa b0a HC0.out).mono ?_
          rintro e wb ⟨rfl, bb⟩
          have b0b := below_trans' b0a bb
          have HOb := Lib.hid (HOa.out.below bb)
          have b6b := below_trans' b6a bb
          clear b0a b6a bb HOa d0 d1
          obtain ⟨d0, d1⟩ := FB.out wb b6b
          go_wp2_with fail
          refine (HRD.out wb b0b).mono ?_
          rintro e wc ⟨vc, rfl, hownc, bc⟩
          have b0c := below_trans' b0b bc
          have HOc := Lib.hid (HOb.out.below bc)
          obtain ⟨Ac, capc, hvc⟩ := owns_slice hownc
          rw [hvc] at hownc ⊢
          have HXc := Lib.hid (SliceIs.ownedK hownc)
          clear hownc hvc b0b bc HOb
          go_wp2_with fail
          refine (HRR.out wc).mono ?_
          rintro e wd ⟨vd, rfl, hownd, bd⟩
          have b0d := below_trans' b0c bd
          have HOd := Lib.hid (HOc.out.below bd)
          have HXd := Lib.hid (HXc.out.below bd)
          obtain ⟨Ad, capd, hvd⟩ := owns_slice hownd
          rw [hvd] at hownd ⊢
          have HYd := Lib.hid (SliceIs.ownedK hownd)
          clear hownd hvd b0c bd HOc HXc
          go_wp2_with fail
          refine (coded_ev E rc wd (HE.out.below b0d) (by omega)).mono ?_
          rintro e we ⟨rfl, be⟩
          have b0e := below_trans' b0d be
          have HOe := Lib.hid (HOd.out.below be)
          have SBe := sameBlocks_any _ _ _ _ _ _ rb rb we (HXd.out.below be) (HYd.out.below be)
          rw [sameB_yes rfl] at SBe
          have HSBe := Lib.hid SBe
          clear b0d be HOd SBe HXd HYd
          go_wp2_with fail
          refine HSBe.out.mono ?_
          rintro e wf ⟨rfl, df⟩
          have bf := df.below we.heap.size
          have b0f := below_trans' b0e bf
          have HOf := Lib.hid (HOe.out.below bf)
          clear b0e bf HOe df HSBe
          go_wp2_with (first | (go_at_call 47; refine (SZ.out _).mono ?_; rintro e wq ⟨rfl, rfl⟩) | (go_at_call 48; refine (RZ.out _).mono ?_; rintro e wq ⟨rfl, rfl⟩))
          refine (HFI.out wf _ _ HOf.out).mono ?_
          rintro e wg ⟨rfl, bg⟩
          have b0g := below_trans' b0f bg
          go_wp2_with (go_at_call 50; refine (HRF.out _ b0g).mono ?_; rintro e wq ⟨rfl, rfl⟩)
          go_ret
          exact ⟨by simp, b0g⟩
        · have ON := fun (w' : World) h => of_no E (bs S) a1 w' (fun h => hz h.2) h
          rw [ev_pos E (by decide)] at ON
          have ON := Lib.hid ON
          have hz2 : a1 < 1 ∨ (¬ a1 < 1 ∧ 64 < a1) := by omega
          clear hz
          rcases hz2 with hz | ⟨hz, hz'⟩
          all_goals
            go_enter Tryd.func7, Tryd.ntmps7
            go_wp2_with (go_at_call 37; refine SG.out.mono ?_; rintro e w0 ⟨rfl, b0⟩)
            refine (ON.out w0 (H2.out.below b0)).mono ?_
            rintro e w1 ⟨rfl, d1⟩
            have b01 := below_trans' b0 (d1.below w0.heap.size)
            clear b0 d1
            go_wp2_with fail
            refine (CE2.out w1 (HE.out.below b01)).mono ?_
            rintro e w2 ⟨rfl, b2⟩
            have bx := below_trans' b01 b2
            clear b01 b2
            go_wp2_with fail
            refine (OB.out _ bx).mono ?_
            rintro e w4 ⟨v4, rfl, hown4, b4⟩
            have b04 := below_trans' bx b4
            obtain ⟨A4, cap4, hv4⟩ := owns_slice hown4
            rw [hv4] at hown4 ⊢
            have HO4 := Lib.hid (SliceIs.ownedK hown4)
            clear hown4 hv4 bx b4
            go_wp2_with fail
            refine (RSF.out w4 b04).mono ?_
            rintro e w5 ⟨rfl, b5⟩
            have b05 := below_trans' b04 b5
            have HO5 := Lib.hid (HO4.out.below b5)
            clear b04 b5 HO4
            have bf := below_one w5 (.cells #[.int .i64 ((0 : Nat) : Int), .int .i64 at'] 62)
            have hzf : (w5.alloc (.cells #[.int .i64 ((0 : Nat) : Int), .int .i64 at'] 62)).heap[w5.heap.size]? = some (.cells #[.int .i64 ((0 : Nat) : Int), .int .i64 at'] 62 (0, 0)) := heap_alloc_new _ _
            go_wp2_with fail
            have HO6 := Lib.hid (HO5.out.below bf)
            have b06 := below_trans' b05 bf
            generalize w5.heap.size = fb at *
            generalize w5.alloc (.cells #[.int .i64 ((0 : Nat) : Int), .int .i64 at'] 62) = w6 at *
            have FB := Lib.hid (fun (w' : World) (b : Below w6.heap.size w6 w') => show w'.cell? ⟨fb, 0, none⟩ = some (.int .i64 ((0 : Nat) : Int)) ∧ w'.cell? ⟨fb, 1, none⟩ = some (.int .i64 at') from by
              have h := (b.block fb (lt_of_block hzf)).trans hzf
              constructor <;> simp [World.cell?, h])
            clear bf hzf b05 HO5
            refine (TY.out w6 _ _ b06 HO6.out HC0.out).mono ?_
            rintro e w7 ⟨rfl, b7⟩
            have b67 := b7
            have DD : Hid (∀ w' : World, Below w6.heap.size w6 w' → (w'.cell? ⟨fb, 0, none⟩ = some (.int .i64 ((0 : Nat) : Int)) ∧ w'.cell? ⟨fb, 1, none⟩ = some (.int .i64 at')) ∧ Below w6.heap.size w6 w') := fun w' b => ⟨FB.out w' b, b⟩
            have S7 := DD.out w7 b67
            clear b7
            go_wp2_with fail
            go_region_held3 (fun w' => (w'.cell? ⟨fb, 0, none⟩ = some (.int .i64 ((0 : Nat) : Int)) ∧ w'.cell? ⟨fb, 1, none⟩ = some (.int .i64 at')) ∧ Below w6.heap.size w6 w') (first | assumption | exact S7 | exact DD.out _ (by assumption) | exact DD.out _ (Below.drew b67))
              (first
              | (go_at_call 43; refine (CK.out _ A4 cap4 ?_ ?_).mono ?_; (exact below_trans' b06 (by first | assumption | exact Below.drew b67)); (exact HO6.out.below (by first | assumption | exact Below.drew b67)); rintro e w8 ⟨v8, rfl, fe8, b8⟩; have bb8 := below_trans' (by first | assumption | exact Below.drew b67) b8; have SS8 := DD.out _ bb8)
              | (go_at_call 35; refine (faulted_yes E v8 0 at' _ fe8 ?_ (by omega)).mono ?_; (exact HE.out.below (below_trans' b06 (by assumption))); rintro e w9 ⟨rfl, b9⟩; have bb9 := below_trans' (by assumption) b9; have SS9 := DD.out _ bb9)
              | (go_at_call 18; refine (coded_yes E .nilIface 0 _ (FErr.nil E _) ?_ (by omega)).mono ?_; (exact HE.out.below (below_trans' b06 (by assumption))); rintro e wa ⟨rfl, ba⟩; have bba := below_trans' (by assumption) ba; have SSa := DD.out _ bba))
            have b0a := below_trans' b06 bba
            have b6a := bba
            have HOa := Lib.hid (HO6.out.below bba)
            obtain ⟨d0, d1⟩ := FB.out wa b6a
            go_wp2_with fail
            refine (RT.out wa b0a HC0.out).mono ?_
            rintro e wb ⟨rfl, bb⟩
            have b0b := below_trans' b0a bb
            have HOb := Lib.hid (HOa.out.below bb)
            have b6b := below_trans' b6a bb
            clear b0a b6a bb HOa d0 d1
            obtain ⟨d0, d1⟩ := FB.out wb b6b
            go_wp2_with fail
            refine (HRD.out wb b0b).mono ?_
            rintro e wc ⟨vc, rfl, hownc, bc⟩
            have b0c := below_trans' b0b bc
            have HOc := Lib.hid (HOb.out.below bc)
            obtain ⟨Ac, capc, hvc⟩ := owns_slice hownc
            rw [hvc] at hownc ⊢
            have HXc := Lib.hid (SliceIs.ownedK hownc)
            clear hownc hvc b0b bc HOb
            go_wp2_with fail
            refine (HRR.out wc).mono ?_
            rintro e wd ⟨vd, rfl, hownd, bd⟩
            have b0d := below_trans' b0c bd
            have HOd := Lib.hid (HOc.out.below bd)
            have HXd := Lib.hid (HXc.out.below bd)
            obtain ⟨Ad, capd, hvd⟩ := owns_slice hownd
            rw [hvd] at hownd ⊢
            have HYd := Lib.hid (SliceIs.ownedK hownd)
            clear hownd hvd b0c bd HOc HXc
            go_wp2_with fail
            refine (coded_ev E rc wd (HE.out.below b0d) (by omega)).mono ?_
            rintro e we ⟨rfl, be⟩
            have b0e := below_trans' b0d be
            have HOe := Lib.hid (HOd.out.below be)
            have SBe := sameBlocks_any _ _ _ _ _ _ rb rb we (HXd.out.below be) (HYd.out.below be)
            rw [sameB_yes rfl] at SBe
            have HSBe := Lib.hid SBe
            clear b0d be HOd SBe HXd HYd
            go_wp2_with fail
            refine HSBe.out.mono ?_
            rintro e wf ⟨rfl, df⟩
            have bf := df.below we.heap.size
            have b0f := below_trans' b0e bf
            have HOf := Lib.hid (HOe.out.below bf)
            clear b0e bf HOe df HSBe
            go_wp2_with (first | (go_at_call 47; refine (SZ.out _).mono ?_; rintro e wq ⟨rfl, rfl⟩) | (go_at_call 48; refine (RZ.out _).mono ?_; rintro e wq ⟨rfl, rfl⟩))
            refine (HFI.out wf _ _ HOf.out).mono ?_
            rintro e wg ⟨rfl, bg⟩
            have b0g := below_trans' b0f bg
            go_wp2_with (go_at_call 50; refine (HRF.out _ b0g).mono ?_; rintro e wq ⟨rfl, rfl⟩)
            go_ret
            exact ⟨by simp, b0g⟩
      · have h3I : (300 : Int) < S.length := by omega
        have h3b : ((S.length : Int) != 4001) = false := by rw [bne_eq_false_iff_eq]; omega
        have ON := fun (w' : World) h => of_no E (bs S) a1 w' (fun h => by rw [bs_size] at h; omega) h
        rw [ev_pos E (by decide)] at ON
        have ON := Lib.hid ON
        have h4I : (4000 : Int) < S.length := by omega
        have hz2 : a1 < 1 ∨ (¬ a1 < 1 ∧ 64 < a1) ∨ (¬ a1 < 1 ∧ ¬ 64 < a1) := by omega
        clear h4001
        rcases hz2 with hz | ⟨hz, hz'⟩ | ⟨hz, hz'⟩
        all_goals
          go_enter Tryd.func7, Tryd.ntmps7
          go_wp2_with (go_at_call 37; refine SG.out.mono ?_; rintro e w0 ⟨rfl, b0⟩)
          refine (ON.out w0 (H2.out.below b0)).mono ?_
          rintro e w1 ⟨rfl, d1⟩
          have b01 := below_trans' b0 (d1.below w0.heap.size)
          clear b0 d1
          go_wp2_with fail
          refine (CE2.out w1 (HE.out.below b01)).mono ?_
          rintro e w2 ⟨rfl, b2⟩
          have bx := below_trans' b01 b2
          clear b01 b2
          go_wp2_with fail
          refine (OB.out _ bx).mono ?_
          rintro e w4 ⟨v4, rfl, hown4, b4⟩
          have b04 := below_trans' bx b4
          obtain ⟨A4, cap4, hv4⟩ := owns_slice hown4
          rw [hv4] at hown4 ⊢
          have HO4 := Lib.hid (SliceIs.ownedK hown4)
          clear hown4 hv4 bx b4
          go_wp2_with fail
          refine (RSF.out w4 b04).mono ?_
          rintro e w5 ⟨rfl, b5⟩
          have b05 := below_trans' b04 b5
          have HO5 := Lib.hid (HO4.out.below b5)
          clear b04 b5 HO4
          have bf := below_one w5 (.cells #[.int .i64 ((0 : Nat) : Int), .int .i64 at'] 62)
          have hzf : (w5.alloc (.cells #[.int .i64 ((0 : Nat) : Int), .int .i64 at'] 62)).heap[w5.heap.size]? = some (.cells #[.int .i64 ((0 : Nat) : Int), .int .i64 at'] 62 (0, 0)) := heap_alloc_new _ _
          go_wp2_with fail
          have HO6 := Lib.hid (HO5.out.below bf)
          have b06 := below_trans' b05 bf
          generalize w5.heap.size = fb at *
          generalize w5.alloc (.cells #[.int .i64 ((0 : Nat) : Int), .int .i64 at'] 62) = w6 at *
          have FB := Lib.hid (fun (w' : World) (b : Below w6.heap.size w6 w') => show w'.cell? ⟨fb, 0, none⟩ = some (.int .i64 ((0 : Nat) : Int)) ∧ w'.cell? ⟨fb, 1, none⟩ = some (.int .i64 at') from by
            have h := (b.block fb (lt_of_block hzf)).trans hzf
            constructor <;> simp [World.cell?, h])
          clear bf hzf b05 HO5
          refine (TY.out w6 _ _ b06 HO6.out HC0.out).mono ?_
          rintro e w7 ⟨rfl, b7⟩
          have b67 := b7
          have DD : Hid (∀ w' : World, Below w6.heap.size w6 w' → (w'.cell? ⟨fb, 0, none⟩ = some (.int .i64 ((0 : Nat) : Int)) ∧ w'.cell? ⟨fb, 1, none⟩ = some (.int .i64 at')) ∧ Below w6.heap.size w6 w') := fun w' b => ⟨FB.out w' b, b⟩
          have S7 := DD.out w7 b67
          clear b7
          go_wp2_with fail
          go_region_held3 (fun w' => (w'.cell? ⟨fb, 0, none⟩ = some (.int .i64 ((0 : Nat) : Int)) ∧ w'.cell? ⟨fb, 1, none⟩ = some (.int .i64 at')) ∧ Below w6.heap.size w6 w') (first | assumption | exact S7 | exact DD.out _ (by assumption) | exact DD.out _ (Below.drew b67))
            (first
            | (go_at_call 43; refine (CK.out _ A4 cap4 ?_ ?_).mono ?_; (exact below_trans' b06 (by first | assumption | exact Below.drew b67)); (exact HO6.out.below (by first | assumption | exact Below.drew b67)); rintro e w8 ⟨v8, rfl, fe8, b8⟩; have bb8 := below_trans' (by first | assumption | exact Below.drew b67) b8; have SS8 := DD.out _ bb8)
            | (go_at_call 35; refine (faulted_yes E v8 0 at' _ fe8 ?_ (by omega)).mono ?_; (exact HE.out.below (below_trans' b06 (by assumption))); rintro e w9 ⟨rfl, b9⟩; have bb9 := below_trans' (by assumption) b9; have SS9 := DD.out _ bb9)
            | (go_at_call 18; refine (coded_yes E .nilIface 0 _ (FErr.nil E _) ?_ (by omega)).mono ?_; (exact HE.out.below (below_trans' b06 (by assumption))); rintro e wa ⟨rfl, ba⟩; have bba := below_trans' (by assumption) ba; have SSa := DD.out _ bba))
          have b0a := below_trans' b06 bba
          have b6a := bba
          have HOa := Lib.hid (HO6.out.below bba)
          obtain ⟨d0, d1⟩ := FB.out wa b6a
          go_wp2_with fail
          refine (RT.out wa b0a HC0.out).mono ?_
          rintro e wb ⟨rfl, bb⟩
          have b0b := below_trans' b0a bb
          have HOb := Lib.hid (HOa.out.below bb)
          have b6b := below_trans' b6a bb
          clear b0a b6a bb HOa d0 d1
          obtain ⟨d0, d1⟩ := FB.out wb b6b
          go_wp2_with fail
          refine (HRD.out wb b0b).mono ?_
          rintro e wc ⟨vc, rfl, hownc, bc⟩
          have b0c := below_trans' b0b bc
          have HOc := Lib.hid (HOb.out.below bc)
          obtain ⟨Ac, capc, hvc⟩ := owns_slice hownc
          rw [hvc] at hownc ⊢
          have HXc := Lib.hid (SliceIs.ownedK hownc)
          clear hownc hvc b0b bc HOb
          go_wp2_with fail
          refine (HRR.out wc).mono ?_
          rintro e wd ⟨vd, rfl, hownd, bd⟩
          have b0d := below_trans' b0c bd
          have HOd := Lib.hid (HOc.out.below bd)
          have HXd := Lib.hid (HXc.out.below bd)
          obtain ⟨Ad, capd, hvd⟩ := owns_slice hownd
          rw [hvd] at hownd ⊢
          have HYd := Lib.hid (SliceIs.ownedK hownd)
          clear hownd hvd b0c bd HOc HXc
          go_wp2_with fail
          refine (coded_ev E rc wd (HE.out.below b0d) (by omega)).mono ?_
          rintro e we ⟨rfl, be⟩
          have b0e := below_trans' b0d be
          have HOe := Lib.hid (HOd.out.below be)
          have SBe := sameBlocks_any _ _ _ _ _ _ rb rb we (HXd.out.below be) (HYd.out.below be)
          rw [sameB_yes rfl] at SBe
          have HSBe := Lib.hid SBe
          clear b0d be HOd SBe HXd HYd
          go_wp2_with fail
          refine HSBe.out.mono ?_
          rintro e wf ⟨rfl, df⟩
          have bf := df.below we.heap.size
          have b0f := below_trans' b0e bf
          have HOf := Lib.hid (HOe.out.below bf)
          clear b0e bf HOe df HSBe
          go_wp2_with (first | (go_at_call 47; refine (SZ.out _).mono ?_; rintro e wq ⟨rfl, rfl⟩) | (go_at_call 48; refine (RZ.out _).mono ?_; rintro e wq ⟨rfl, rfl⟩))
          go_ret
          exact ⟨rfl, b0f⟩
    · have hcI : (0 : Int) < code := by omega
      have hcb : ((code : Int) == 0) = false := by rw [beq_eq_false_iff_ne]; omega
      have HC0 := Lib.hid hc
      clear hc
      rcases h0 with h300 | h4001
      · have h3I : ¬ (300 : Int) < S.length := by omega
        by_cases hz : 1 ≤ a1 ∧ a1 ≤ 64
        · obtain ⟨z, rfl⟩ : ∃ z : Nat, a1 = z := ⟨a1.toNat, by omega⟩
          have z1 : ¬ (z : Int) < 1 := by omega
          have z2 : ¬ (64 : Int) < z := by omega
          have z3 : ¬ (4000 : Int) < S.length := by omega
          have OF := fun w' => of_yes (bs S) z w' (by rw [bs_size]; omega) (by omega) (by omega)
          have RB := fun w' => rblocks_any (bs S) z w' (by rw [bs_size]; omega) (by omega) (by omega)
          simp only [bs_list] at OF RB
          have OF := Lib.hid OF
          have RB := Lib.hid RB
          go_enter Tryd.func7, Tryd.ntmps7
          go_wp2_with (go_at_call 37; refine SG.out.mono ?_; rintro e w0 ⟨rfl, b0⟩)
          refine (OF.out w0).mono ?_
          rintro e w1 ⟨v1, rfl, hown1, b1⟩
          have b01 := below_trans' b0 b1
          obtain ⟨A1, cap1, hv1⟩ := owns_slice hown1
          rw [hv1] at hown1 ⊢
          have HX1 := Lib.hid (SliceIs.ownedK hown1)
          clear hown1 hv1 b0 b1
          go_wp2_with fail
          refine (RB.out w1).mono ?_
          rintro e w2 ⟨v2, rfl, hown2, b2⟩
          have b02 := below_trans' b01 b2
          have HX2 := Lib.hid (HX1.out.below b2)
          obtain ⟨A2, cap2, hv2⟩ := owns_slice hown2
          rw [hv2] at hown2 ⊢
          have SB2 := sameBlocks_any _ _ _ _ _ _ (blks z S) (blks z S) w2 HX2.out (SliceIs.ownedK hown2)
          rw [sameB_yes rfl] at SB2
          have HSB2 := Lib.hid SB2
          clear hown2 hv2 b01 b2 HX1 HX2 SB2
          go_wp2_with fail
          refine HSB2.out.mono ?_
          rintro e w3 ⟨rfl, d3⟩
          have bx := below_trans' b02 (d3.below w2.heap.size)
          clear b02 d3 HSB2
          go_wp2_with fail
          refine (OB.out _ bx).mono ?_
          rintro e w4 ⟨v4, rfl, hown4, b4⟩
          have b04 := below_trans' bx b4
          obtain ⟨A4, cap4, hv4⟩ := owns_slice hown4
          rw [hv4] at hown4 ⊢
          have HO4 := Lib.hid (SliceIs.ownedK hown4)
          clear hown4 hv4 bx b4
          go_wp2_with fail
          refine (RSF.out w4 b04).mono ?_
          rintro e w5 ⟨rfl, b5⟩
          have b05 := below_trans' b04 b5
          have HO5 := Lib.hid (HO4.out.below b5)
          clear b04 b5 HO4
          have bf := below_one w5 (.cells #[.int .i64 code, .int .i64 at'] 62)
          have hzf : (w5.alloc (.cells #[.int .i64 code, .int .i64 at'] 62)).heap[w5.heap.size]? = some (.cells #[.int .i64 code, .int .i64 at'] 62 (0, 0)) := heap_alloc_new _ _
          go_wp2_with fail
          have HO6 := Lib.hid (HO5.out.below bf)
          have b06 := below_trans' b05 bf
          generalize w5.heap.size = fb at *
          generalize w5.alloc (.cells #[.int .i64 code, .int .i64 at'] 62) = w6 at *
          have FB := Lib.hid (fun (w' : World) (b : Below w6.heap.size w6 w') => show w'.cell? ⟨fb, 0, none⟩ = some (.int .i64 code) ∧ w'.cell? ⟨fb, 1, none⟩ = some (.int .i64 at') from by
            have h := (b.block fb (lt_of_block hzf)).trans hzf
            constructor <;> simp [World.cell?, h])
          clear bf hzf b05 HO5
          have TX := TN.out w6 _ _ b06 HO6.out HC0.out
          rw [bs_nil] at TX
          refine TX.mono ?_
          clear TX
          rintro e w7 ⟨rfl, b7⟩
          have b67 := b7
          have DD : Hid (∀ w' : World, Below w6.heap.size w6 w' → (w'.cell? ⟨fb, 0, none⟩ = some (.int .i64 code) ∧ w'.cell? ⟨fb, 1, none⟩ = some (.int .i64 at')) ∧ Below w6.heap.size w6 w') := fun w' b => ⟨FB.out w' b, b⟩
          have S7 := DD.out w7 b67
          clear b7
          go_wp2_with fail
          go_region_held3 (fun w' => (w'.cell? ⟨fb, 0, none⟩ = some (.int .i64 code) ∧ w'.cell? ⟨fb, 1, none⟩ = some (.int .i64 at')) ∧ Below w6.heap.size w6 w') (first | assumption | exact S7 | exact DD.out _ (by assumption) | exact DD.out _ (Below.drew b67))
            (first
            | (go_at_call 43; refine (CK.out _ A4 cap4 ?_ ?_).mono ?_; (exact below_trans' b06 (by first | assumption | exact Below.drew b67)); (exact HO6.out.below (by first | assumption | exact Below.drew b67)); rintro e w8 ⟨v8, rfl, fe8, b8⟩; have bb8 := below_trans' (by first | assumption | exact Below.drew b67) b8; have SS8 := DD.out _ bb8)
            | (go_at_call 35; refine (faulted_yes E v8 code at' _ fe8 ?_ (by omega)).mono ?_; (exact HE.out.below (below_trans' b06 (by assumption))); rintro e w9 ⟨rfl, b9⟩; have bb9 := below_trans' (by assumption) b9; have SS9 := DD.out _ bb9)
            | (go_at_call 18; refine (coded_ev E code _ ?_ (by omega)).mono ?_; (exact HE.out.below (below_trans' b06 (by assumption))); rintro e wa ⟨rfl, ba⟩; have bba := below_trans' (by assumption) ba; have SSa := DD.out _ bba))
          have b0a := below_trans' b06 bba
          have b6a := bba
          have HOa := Lib.hid (HO6.out.below bba)
          obtain ⟨d0, d1⟩ := FB.out wa b6a
          have b0b := b0a
          have HOb := HOa
          obtain ⟨wb, rfl⟩ : ∃ wb : World, wb = wa := ⟨wa, rfl⟩
          go_wp2_with fail
          refine (HRD.out wb b0b).mono ?_
          rintro e wc ⟨vc, rfl, hownc, bc⟩
          have b0c := below_trans' b0b bc
          have HOc := Lib.hid (HOb.out.below bc)
          obtain ⟨Ac, capc, hvc⟩ := owns_slice hownc
          rw [hvc] at hownc ⊢
          have HXc := Lib.hid (SliceIs.ownedK hownc)
          clear hownc hvc b0b bc HOb
          go_wp2_with fail
          refine (HRR.out wc).mono ?_
          rintro e wd ⟨vd, rfl, hownd, bd⟩
          have b0d := below_trans' b0c bd
          have HOd := Lib.hid (HOc.out.below bd)
          have HXd := Lib.hid (HXc.out.below bd)
          obtain ⟨Ad, capd, hvd⟩ := owns_slice hownd
          rw [hvd] at hownd ⊢
          have HYd := Lib.hid (SliceIs.ownedK hownd)
          clear hownd hvd b0c bd HOc HXc
          go_wp2_with fail
          refine (coded_ev E rc wd (HE.out.below b0d) (by omega)).mono ?_
          rintro e we ⟨rfl, be⟩
          have b0e := below_trans' b0d be
          have HOe := Lib.hid (HOd.out.below be)
          have SBe := sameBlocks_any _ _ _ _ _ _ rb rb we (HXd.out.below be) (HYd.out.below be)
          rw [sameB_yes rfl] at SBe
          have HSBe := Lib.hid SBe
          clear b0d be HOd SBe HXd HYd
          go_wp2_with fail
          refine HSBe.out.mono ?_
          rintro e wf ⟨rfl, df⟩
          have bf := df.below we.heap.size
          have b0f := below_trans' b0e bf
          have HOf := Lib.hid (HOe.out.below bf)
          clear b0e bf HOe df HSBe
          go_wp2_with (first | (go_at_call 47; refine (SZ.out _).mono ?_; rintro e wq ⟨rfl, rfl⟩) | (go_at_call 48; refine (RZ.out _).mono ?_; rintro e wq ⟨rfl, rfl⟩))
          refine (HFI.out wf _ _ HOf.out).mono ?_
          rintro e wg ⟨rfl, bg⟩
          have b0g := below_trans' b0f bg
          go_wp2_with (go_at_call 50; refine (HRF.out _ b0g).mono ?_; rintro e wq ⟨rfl, rfl⟩)
          go_ret
          exact ⟨by simp, b0g⟩
        · have ON := fun (w' : World) h => of_no E (bs S) a1 w' (fun h => hz h.2) h
          rw [ev_pos E (by decide)] at ON
          have ON := Lib.hid ON
          have hz2 : a1 < 1 ∨ (¬ a1 < 1 ∧ 64 < a1) := by omega
          clear hz
          rcases hz2 with hz | ⟨hz, hz'⟩
          all_goals
            go_enter Tryd.func7, Tryd.ntmps7
            go_wp2_with (go_at_call 37; refine SG.out.mono ?_; rintro e w0 ⟨rfl, b0⟩)
            refine (ON.out w0 (H2.out.below b0)).mono ?_
            rintro e w1 ⟨rfl, d1⟩
            have b01 := below_trans' b0 (d1.below w0.heap.size)
            clear b0 d1
            go_wp2_with fail
            refine (CE2.out w1 (HE.out.below b01)).mono ?_
            rintro e w2 ⟨rfl, b2⟩
            have bx := below_trans' b01 b2
            clear b01 b2
            go_wp2_with fail
            refine (OB.out _ bx).mono ?_
            rintro e w4 ⟨v4, rfl, hown4, b4⟩
            have b04 := below_trans' bx b4
            obtain ⟨A4, cap4, hv4⟩ := owns_slice hown4
            rw [hv4] at hown4 ⊢
            have HO4 := Lib.hid (SliceIs.ownedK hown4)
            clear hown4 hv4 bx b4
            go_wp2_with fail
            refine (RSF.out w4 b04).mono ?_
            rintro e w5 ⟨rfl, b5⟩
            have b05 := below_trans' b04 b5
            have HO5 := Lib.hid (HO4.out.below b5)
            clear b04 b5 HO4
            have bf := below_one w5 (.cells #[.int .i64 code, .int .i64 at'] 62)
            have hzf : (w5.alloc (.cells #[.int .i64 code, .int .i64 at'] 62)).heap[w5.heap.size]? = some (.cells #[.int .i64 code, .int .i64 at'] 62 (0, 0)) := heap_alloc_new _ _
            go_wp2_with fail
            have HO6 := Lib.hid (HO5.out.below bf)
            have b06 := below_trans' b05 bf
            generalize w5.heap.size = fb at *
            generalize w5.alloc (.cells #[.int .i64 code, .int .i64 at'] 62) = w6 at *
            have FB := Lib.hid (fun (w' : World) (b : Below w6.heap.size w6 w') => show w'.cell? ⟨fb, 0, none⟩ = some (.int .i64 code) ∧ w'.cell? ⟨fb, 1, none⟩ = some (.int .i64 at') from by
              have h := (b.block fb (lt_of_block hzf)).trans hzf
              constructor <;> simp [World.cell?, h])
            clear bf hzf b05 HO5
            have TX := TN.out w6 _ _ b06 HO6.out HC0.out
            rw [bs_nil] at TX
            refine TX.mono ?_
            clear TX
            rintro e w7 ⟨rfl, b7⟩
            have b67 := b7
            have DD : Hid (∀ w' : World, Below w6.heap.size w6 w' → (w'.cell? ⟨fb, 0, none⟩ = some (.int .i64 code) ∧ w'.cell? ⟨fb, 1, none⟩ = some (.int .i64 at')) ∧ Below w6.heap.size w6 w') := fun w' b => ⟨FB.out w' b, b⟩
            have S7 := DD.out w7 b67
            clear b7
            go_wp2_with fail
            go_region_held3 (fun w' => (w'.cell? ⟨fb, 0, none⟩ = some (.int .i64 code) ∧ w'.cell? ⟨fb, 1, none⟩ = some (.int .i64 at')) ∧ Below w6.heap.size w6 w') (first | assumption | exact S7 | exact DD.out _ (by assumption) | exact DD.out _ (Below.drew b67))
              (first
              | (go_at_call 43; refine (CK.out _ A4 cap4 ?_ ?_).mono ?_; (exact below_trans' b06 (by first | assumption | exact Below.drew b67)); (exact HO6.out.below (by first | assumption | exact Below.drew b67)); rintro e w8 ⟨v8, rfl, fe8, b8⟩; have bb8 := below_trans' (by first | assumption | exact Below.drew b67) b8; have SS8 := DD.out _ bb8)
              | (go_at_call 35; refine (faulted_yes E v8 code at' _ fe8 ?_ (by omega)).mono ?_; (exact HE.out.below (below_trans' b06 (by assumption))); rintro e w9 ⟨rfl, b9⟩; have bb9 := below_trans' (by assumption) b9; have SS9 := DD.out _ bb9)
              | (go_at_call 18; refine (coded_ev E code _ ?_ (by omega)).mono ?_; (exact HE.out.below (below_trans' b06 (by assumption))); rintro e wa ⟨rfl, ba⟩; have bba := below_trans' (by assumption) ba; have SSa := DD.out _ bba))
            have b0a := below_trans' b06 bba
            have b6a := bba
            have HOa := Lib.hid (HO6.out.below bba)
            obtain ⟨d0, d1⟩ := FB.out wa b6a
            have b0b := b0a
            have HOb := HOa
            obtain ⟨wb, rfl⟩ : ∃ wb : World, wb = wa := ⟨wa, rfl⟩
            go_wp2_with fail
            refine (HRD.out wb b0b).mono ?_
            rintro e wc ⟨vc, rfl, hownc, bc⟩
            have b0c := below_trans' b0b bc
            have HOc := Lib.hid (HOb.out.below bc)
            obtain ⟨Ac, capc, hvc⟩ := owns_slice hownc
            rw [hvc] at hownc ⊢
            have HXc := Lib.hid (SliceIs.ownedK hownc)
            clear hownc hvc b0b bc HOb
            go_wp2_with fail
            refine (HRR.out wc).mono ?_
            rintro e wd ⟨vd, rfl, hownd, bd⟩
            have b0d := below_trans' b0c bd
            have HOd := Lib.hid (HOc.out.below bd)
            have HXd := Lib.hid (HXc.out.below bd)
            obtain ⟨Ad, capd, hvd⟩ := owns_slice hownd
            rw [hvd] at hownd ⊢
            have HYd := Lib.hid (SliceIs.ownedK hownd)
            clear hownd hvd b0c bd HOc HXc
            go_wp2_with fail
            refine (coded_ev E rc wd (HE.out.below b0d) (by omega)).mono ?_
            rintro e we ⟨rfl, be⟩
            have b0e := below_trans' b0d be
            have HOe := Lib.hid (HOd.out.below be)
            have SBe := sameBlocks_any _ _ _ _ _ _ rb rb we (HXd.out.below be) (HYd.out.below be)
            rw [sameB_yes rfl] at SBe
            have HSBe := Lib.hid SBe
            clear b0d be HOd SBe HXd HYd
            go_wp2_with fail
            refine HSBe.out.mono ?_
            rintro e wf ⟨rfl, df⟩
            have bf := df.below we.heap.size
            have b0f := below_trans' b0e bf
            have HOf := Lib.hid (HOe.out.below bf)
            clear b0e bf HOe df HSBe
            go_wp2_with (first | (go_at_call 47; refine (SZ.out _).mono ?_; rintro e wq ⟨rfl, rfl⟩) | (go_at_call 48; refine (RZ.out _).mono ?_; rintro e wq ⟨rfl, rfl⟩))
            refine (HFI.out wf _ _ HOf.out).mono ?_
            rintro e wg ⟨rfl, bg⟩
            have b0g := below_trans' b0f bg
            go_wp2_with (go_at_call 50; refine (HRF.out _ b0g).mono ?_; rintro e wq ⟨rfl, rfl⟩)
            go_ret
            exact ⟨by simp, b0g⟩
      · have h3I : (300 : Int) < S.length := by omega
        have h3b : ((S.length : Int) != 4001) = false := by rw [bne_eq_false_iff_eq]; omega
        have ON := fun (w' : World) h => of_no E (bs S) a1 w' (fun h => by rw [bs_size] at h; omega) h
        rw [ev_pos E (by decide)] at ON
        have ON := Lib.hid ON
        have h4I : (4000 : Int) < S.length := by omega
        have hz2 : a1 < 1 ∨ (¬ a1 < 1 ∧ 64 < a1) ∨ (¬ a1 < 1 ∧ ¬ 64 < a1) := by omega
        clear h4001
        rcases hz2 with hz | ⟨hz, hz'⟩ | ⟨hz, hz'⟩
        all_goals
          go_enter Tryd.func7, Tryd.ntmps7
          go_wp2_with (go_at_call 37; refine SG.out.mono ?_; rintro e w0 ⟨rfl, b0⟩)
          refine (ON.out w0 (H2.out.below b0)).mono ?_
          rintro e w1 ⟨rfl, d1⟩
          have b01 := below_trans' b0 (d1.below w0.heap.size)
          clear b0 d1
          go_wp2_with fail
          refine (CE2.out w1 (HE.out.below b01)).mono ?_
          rintro e w2 ⟨rfl, b2⟩
          have bx := below_trans' b01 b2
          clear b01 b2
          go_wp2_with fail
          refine (OB.out _ bx).mono ?_
          rintro e w4 ⟨v4, rfl, hown4, b4⟩
          have b04 := below_trans' bx b4
          obtain ⟨A4, cap4, hv4⟩ := owns_slice hown4
          rw [hv4] at hown4 ⊢
          have HO4 := Lib.hid (SliceIs.ownedK hown4)
          clear hown4 hv4 bx b4
          go_wp2_with fail
          refine (RSF.out w4 b04).mono ?_
          rintro e w5 ⟨rfl, b5⟩
          have b05 := below_trans' b04 b5
          have HO5 := Lib.hid (HO4.out.below b5)
          clear b04 b5 HO4
          have bf := below_one w5 (.cells #[.int .i64 code, .int .i64 at'] 62)
          have hzf : (w5.alloc (.cells #[.int .i64 code, .int .i64 at'] 62)).heap[w5.heap.size]? = some (.cells #[.int .i64 code, .int .i64 at'] 62 (0, 0)) := heap_alloc_new _ _
          go_wp2_with fail
          have HO6 := Lib.hid (HO5.out.below bf)
          have b06 := below_trans' b05 bf
          generalize w5.heap.size = fb at *
          generalize w5.alloc (.cells #[.int .i64 code, .int .i64 at'] 62) = w6 at *
          have FB := Lib.hid (fun (w' : World) (b : Below w6.heap.size w6 w') => show w'.cell? ⟨fb, 0, none⟩ = some (.int .i64 code) ∧ w'.cell? ⟨fb, 1, none⟩ = some (.int .i64 at') from by
            have h := (b.block fb (lt_of_block hzf)).trans hzf
            constructor <;> simp [World.cell?, h])
          clear bf hzf b05 HO5
          have TX := TN.out w6 _ _ b06 HO6.out HC0.out
          rw [bs_nil] at TX
          refine TX.mono ?_
          clear TX
          rintro e w7 ⟨rfl, b7⟩
          have b67 := b7
          have DD : Hid (∀ w' : World, Below w6.heap.size w6 w' → (w'.cell? ⟨fb, 0, none⟩ = some (.int .i64 code) ∧ w'.cell? ⟨fb, 1, none⟩ = some (.int .i64 at')) ∧ Below w6.heap.size w6 w') := fun w' b => ⟨FB.out w' b, b⟩
          have S7 := DD.out w7 b67
          clear b7
          go_wp2_with fail
          go_region_held3 (fun w' => (w'.cell? ⟨fb, 0, none⟩ = some (.int .i64 code) ∧ w'.cell? ⟨fb, 1, none⟩ = some (.int .i64 at')) ∧ Below w6.heap.size w6 w') (first | assumption | exact S7 | exact DD.out _ (by assumption) | exact DD.out _ (Below.drew b67))
            (first
            | (go_at_call 43; refine (CK.out _ A4 cap4 ?_ ?_).mono ?_; (exact below_trans' b06 (by first | assumption | exact Below.drew b67)); (exact HO6.out.below (by first | assumption | exact Below.drew b67)); rintro e w8 ⟨v8, rfl, fe8, b8⟩; have bb8 := below_trans' (by first | assumption | exact Below.drew b67) b8; have SS8 := DD.out _ bb8)
            | (go_at_call 35; refine (faulted_yes E v8 code at' _ fe8 ?_ (by omega)).mono ?_; (exact HE.out.below (below_trans' b06 (by assumption))); rintro e w9 ⟨rfl, b9⟩; have bb9 := below_trans' (by assumption) b9; have SS9 := DD.out _ bb9)
            | (go_at_call 18; refine (coded_ev E code _ ?_ (by omega)).mono ?_; (exact HE.out.below (below_trans' b06 (by assumption))); rintro e wa ⟨rfl, ba⟩; have bba := below_trans' (by assumption) ba; have SSa := DD.out _ bba))
          have b0a := below_trans' b06 bba
          have b6a := bba
          have HOa := Lib.hid (HO6.out.below bba)
          obtain ⟨d0, d1⟩ := FB.out wa b6a
          have b0b := b0a
          have HOb := HOa
          obtain ⟨wb, rfl⟩ : ∃ wb : World, wb = wa := ⟨wa, rfl⟩
          go_wp2_with fail
          refine (HRD.out wb b0b).mono ?_
          rintro e wc ⟨vc, rfl, hownc, bc⟩
          have b0c := below_trans' b0b bc
          have HOc := Lib.hid (HOb.out.below bc)
          obtain ⟨Ac, capc, hvc⟩ := owns_slice hownc
          rw [hvc] at hownc ⊢
          have HXc := Lib.hid (SliceIs.ownedK hownc)
          clear hownc hvc b0b bc HOb
          go_wp2_with fail
          refine (HRR.out wc).mono ?_
          rintro e wd ⟨vd, rfl, hownd, bd⟩
          have b0d := below_trans' b0c bd
          have HOd := Lib.hid (HOc.out.below bd)
          have HXd := Lib.hid (HXc.out.below bd)
          obtain ⟨Ad, capd, hvd⟩ := owns_slice hownd
          rw [hvd] at hownd ⊢
          have HYd := Lib.hid (SliceIs.ownedK hownd)
          clear hownd hvd b0c bd HOc HXc
          go_wp2_with fail
          refine (coded_ev E rc wd (HE.out.below b0d) (by omega)).mono ?_
          rintro e we ⟨rfl, be⟩
          have b0e := below_trans' b0d be
          have HOe := Lib.hid (HOd.out.below be)
          have SBe := sameBlocks_any _ _ _ _ _ _ rb rb we (HXd.out.below be) (HYd.out.below be)
          rw [sameB_yes rfl] at SBe
          have HSBe := Lib.hid SBe
          clear b0d be HOd SBe HXd HYd
          go_wp2_with fail
          refine HSBe.out.mono ?_
          rintro e wf ⟨rfl, df⟩
          have bf := df.below we.heap.size
          have b0f := below_trans' b0e bf
          have HOf := Lib.hid (HOe.out.below bf)
          clear b0e bf HOe df HSBe
          go_wp2_with (first | (go_at_call 47; refine (SZ.out _).mono ?_; rintro e wq ⟨rfl, rfl⟩) | (go_at_call 48; refine (RZ.out _).mono ?_; rintro e wq ⟨rfl, rfl⟩))
          go_ret
          exact ⟨rfl, b0f⟩
  · have h3 : ((300 : Int) < S.length ∧ ((S.length : Int) != 4001) = true) ∨ (¬ (300 : Int) < S.length ∧ (40 : Int) < l.length) ∨ ((300 : Int) < S.length ∧ ((S.length : Int) != 4001) = false ∧ (40 : Int) < l.length) ∨ (¬ (300 : Int) < S.length ∧ ¬ (40 : Int) < l.length ∧ (400 : Int) < T.length) ∨ ((300 : Int) < S.length ∧ ((S.length : Int) != 4001) = false ∧ ¬ (40 : Int) < l.length ∧ (400 : Int) < T.length) := by
      simp only [bne_iff_ne, bne_eq_false_iff_eq]
      omega
    clear h0
    rcases h3 with ⟨h, h'⟩ | ⟨h, h'⟩ | ⟨h, h', h''⟩ | ⟨h, h', h''⟩ | ⟨h, h', h'', h3⟩
    all_goals
      go_enter Tryd.func7, Tryd.ntmps7
      go_wp2_with (go_at_call 37; refine SG.out.mono ?_; rintro e w0 ⟨rfl, b0⟩)
      go_ret
      exact ⟨rfl, b0⟩
end Go.Proofs.YtphigoclkkgpoaaDoor
