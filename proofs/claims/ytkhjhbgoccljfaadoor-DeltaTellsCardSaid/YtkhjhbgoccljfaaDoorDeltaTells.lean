/- DeltaTells: what package delta tells is the document's: any blocks, any file, any ops, any text. -/
import Derived.Test.YtkhjhbgoccljfaaDoorRefDelta2
import Derived.Test.YtkhjhbgoccljfaaDoorDeltaFacts
import Derived.Test.YtkhjhbgoccljfaaDoorRefOpsText
import Derived.Test.YtkhjhbgoccljfaaDoorMade
import Derived.Test.YtkhjhbgoccljfaaDoorSameOps
import Derived.Test.YtkhjhbgoccljfaaDoorCodedYes
import Derived.Test.YtkhjhbgoccljfaaDoorArgBlks
import Derived.Test.YtkhjhbgoccljfaaDoorArgOps
import Derived.Deep.RegionHeld3
import Derived.Deep.DeepCutAuto
namespace Go.Proofs.YtkhjhbgoccljfaaDoor
open Go.RowKit
set_option linter.unusedVariables false

theorem put2 {w : World} {b : Nat} {x y : Value} {t : TypeId} (h : w.heap[b]? = some (.cells #[x, y] t (0, 0))) (u v : Value) : ((w.setCell ⟨b, 0, none⟩ u).setCell ⟨b, 1, none⟩ v).heap[b]? = some (.cells #[u, v] t (0, 0)) := by
  have h1 := set_at (k := 0) (u := u) h
  have h2 := set_at (k := 1) (u := v) h1
  simpa using h2
set_option maxRecDepth 100000 in
set_option maxHeartbeats 6400000 in
theorem deltaTells_walk (E : Nat → Addr) (s0 : Option Addr) (n0 c0 : Nat) (a0 : List PBlk) (a1 : Int) (a2 : ByteArray) (s3 : Option Addr) (n3 c3 : Nat) (a3 : List POp) (a4 : ByteArray) (w : World) (hs : SliceIs w (.slice s0 n0 c0) PBlk.cells (a0.flatMap PBlk.vals) ∧ ∀ x ∈ a0, x.ok) (_ : (Lit.int .i64 a1).wf = true) (_ : a2.size ≤ maxLen) (ho : SliceIs w (.slice s3 n3 c3) POp.cells (a3.flatMap POp.vals) ∧ ∀ x ∈ a3, x.ok) (_ : a4.size ≤ maxLen) (hh : Hand w) (h1 : ∀ c ∈ [1, 2, 3, 4, 5, 6, 7, 8, 9, 10, 11, 12], Has E w c ∧ Sent w (E c)) (h2 : ∀ c ∈ [1, 2, 3, 4, 5, 6, 7, 8, 9, 10, 11, 12], ∀ c' ∈ [1, 2, 3, 4, 5, 6, 7, 8, 9, 10, 11, 12], c ≠ c' → E c ≠ E c') :
    Calls Tryd.prog 5 #[.slice s0 n0 c0, .int .i64 a1, .string a2, .slice s3 n3 c3, .string a4] w fun e w' => e = .returned (.bool true) ∧ Below w.heap.size w w' := by
  have hE := Errs.of hh h1 h2
  have HE := Lib.hid hE
  have H1 := Lib.hid (hE.has 1 (by omega) (by omega))
  have H2 := Lib.hid (hE.has 2 (by omega) (by omega))
  have H3 := Lib.hid (hE.has 3 (by omega) (by omega))
  have H4 := Lib.hid (hE.has 4 (by omega) (by omega))
  have H8 := Lib.hid (hE.has 8 (by omega) (by omega))
  obtain ⟨hs, _⟩ := hs
  rw [pvals_is] at hs
  generalize a0.map PBlk.b = l at hs
  have hs : SliceIs w (.slice s0 n0 c0) 3 (bcells l) := hs
  obtain ⟨rfl, hc0, hc1⟩ := blks_sl hs
  obtain ⟨ho, _⟩ := ho
  rw [ocells_is] at ho
  have ho : SliceIs w (.slice s3 n3 c3) 4 (ocells a3) := ho
  obtain ⟨rfl, hd0, hd1⟩ := ops_len ho
  have HS := Lib.hid hs
  have HO := Lib.hid ho
  have MO := Lib.hid (made_ok E w H2.out H8.out)
  have LO := Lib.hid (fun (w' : World) (b : Below w.heap.size w w') => longOps_any s3 a3.length c3 a3 w' (ho.below b))
  clear hh h1 h2 hE hs ho
  obtain ⟨S, rfl⟩ : ∃ S, a2 = bs S := ⟨a2.data.toList, (bs_of _).symm⟩
  obtain ⟨T, rfl⟩ : ∃ T, a4 = bs T := ⟨a4.data.toList, (bs_of _).symm⟩
  by_cases h0 : (l.length ≤ 40 ∧ (S.length ≤ 200 ∨ S.length = 4001)) ∧ longB a3 = false ∧ (T.length ≤ 400 ∨ T.length = 20001)
  · obtain ⟨⟨h40, hS⟩, hlb, hT⟩ := h0
    have h40I : ¬ (40 : Int) < l.length := by omega
    have hS5 : S.length ≤ 5000 := by omega
    have hT5 : T.length ≤ 30000 := by omega
    have hSI : ¬ (200 : Int) < S.length ∨ (200 : Int) < S.length ∧ ((S.length : Int) != 4001) = false := by
      rcases hS with h | h
      · exact .inl (by omega)
      · exact .inr ⟨by omega, by rw [bne_eq_false_iff_eq]; omega⟩
    have hTI : ¬ (400 : Int) < T.length ∨ (400 : Int) < T.length ∧ ((T.length : Int) != 20001) = false := by
      rcases hT with h | h
      · exact .inl (by omega)
      · exact .inr ⟨by omega, by rw [bne_eq_false_iff_eq]; omega⟩
    obtain ⟨l40, hcost⟩ := long_cost hlb
    have hlng : (opsT a3).length ≤ 100000000 := by have := opsT_len a3; omega
    obtain ⟨hdt, hdtf, hdtb⟩ := long_dt hlb
    have hcode := chkOps_code a3
    have OB := Lib.hid (fun (w' : World) (b : Below w.heap.size w w') => ownBlocks_any s0 l.length c0 l w' (HS.out.below b) (by omega))
    have MK := fun (w' : World) A cap (b : Below w.heap.size w w') h => make_all E A l.length cap l a1 S w' h (H2.out.below b) (H8.out.below b)
    have RD := fun (w' : World) (b : Below w.heap.size w w') => rdelta_all s0 l.length c0 l a1 S w' (HS.out.below b)
    have hmc := mkR_code l a1 S
    generalize mkR l a1 S = mr at MK RD hmc
    obtain ⟨mo, mc, ma⟩ := mr
    simp only [] at MK RD hmc
    have HMK := Lib.hid MK
    have HRD := Lib.hid RD
    have RO := fun (w' : World) (b : Below w.heap.size w w') => rof_any s3 a3.length c3 a3 w' (HO.out.below b)
    simp only [rfv_is] at RO
    have OO := Lib.hid (fun (w' : World) (b : Below w.heap.size w w') => ownOps_any s3 a3.length c3 a3 w' (HO.out.below b) (by omega))
    have DT := fun (w' : World) A cap (b : Below w.heap.size w w') h => dtext_any E A a3.length cap a3 w' h (H2.out.below b) (H3.out.below b) (H4.out.below b) (by omega) hlng
    simp only [hdt] at DT
    have DC := fun (w' : World) A cap (b : Below w.heap.size w w') h => dcheck_any E A a3.length cap a3 w' h (H2.out.below b) (H3.out.below b) (H4.out.below b)
    have RT := Lib.hid (fun (hok : (chkOps a3).1 = 0) (w' : World) (b : Below w.heap.size w w') => ropstext_any s3 a3.length c3 a3 w' (HO.out.below b) hok (by omega) hlng)
    have CO := Lib.hid (fun (w' : World) A cap h => cost_any A a3.length cap a3 w' h (by omega))
    have DR := fun (w' : World) (b : Below w.heap.size w w') => dread_any E (bs T) w' (by rw [bs_size]; omega) (H1.out.below b) (H2.out.below b) (H3.out.below b) (H4.out.below b)
    simp only [bs_list] at DR
    have RR := fun (w' : World) => rreadops_any T w' (by omega)
    have hrc := readO_code T
    generalize readO T = rs at DR RR hrc
    obtain ⟨ro, rc⟩ := rs
    simp only [] at DR RR hrc
    have HDR := Lib.hid DR
    have HRR := Lib.hid RR
    generalize chkOps a3 = ck at RO DT DC RT hcode hdtf hdtb
    obtain ⟨code, at'⟩ := ck
    simp only [] at RO DT DC RT hcode hdtf hdtb
    generalize dtL a3 = TX at DT hdtf hdtb
    have HRO := Lib.hid RO
    have HDT := Lib.hid DT
    have HDC := Lib.hid DC
    have HTF := Lib.hid hdtf
    have HTB := Lib.hid hdtb
    rw [hlb] at LO
    clear MK RD RO DT DC DR RR hdt hdtf hdtb hlb hS hT hlng
    go_enter Tryd.func5, Tryd.ntmps5
    go_wp2_with fail
    refine MO.out.mono ?_
    rintro e w0 ⟨rfl, b0⟩
    go_upto_region 2 with fail
    go_cut [53] (fun x wz => x = .bool false ∧ Below w.heap.size w wz)
    case first =>
      rcases hSI with hSI | ⟨hSI, hSJ⟩
      all_goals
        rcases hTI with hTI | ⟨hTI, hTJ⟩
      all_goals
        go_wp2_with (go_at_call 7; refine (LO.out _ b0).mono ?_; rintro e wq ⟨rfl, rfl⟩)
        go_meet
        exact ⟨congrArg Value.bool (decide_eq_false (by omega)), b0⟩
    case rest =>
      obtain ⟨rfl, bx⟩ := hcut
      clear b0 hSI hTI LO MO
      go_wp2_with fail
      refine (OB.out wc bx).mono ?_
      rintro e w1 ⟨v1, rfl, hown1, b1⟩
      have b01 := below_trans' bx b1
      obtain ⟨A1, cap1, hv1⟩ := owns_slice hown1
      rw [hv1] at hown1 ⊢
      have HX1 := Lib.hid (SliceIs.ownedK hown1)
      clear hown1 hv1 bx b1
      go_wp2_with fail
      refine (HMK.out w1 _ _ b01 HX1.out).mono ?_
      rintro e w2 ⟨v2, u2, rfl, fe2, hown2, b2⟩
      have b02 := below_trans' b01 b2
      have FE2 := Lib.hid fe2
      obtain ⟨A2, cap2, hv2⟩ := owns_slice hown2
      rw [hv2] at hown2 ⊢
      have HX2 := Lib.hid (SliceIs.ownedK hown2)
      clear hown2 hv2 b01 b2 fe2 HX1
      go_wp2_with fail
      refine (HRD.out w2 b02).mono ?_
      rintro e w3 ⟨v3, rfl, hown3, b3⟩
      have b03 := below_trans' b02 b3
      have FE3 := Lib.hid (FE2.out.below b3)
      have HY3 := Lib.hid (HX2.out.below b3)
      obtain ⟨A3, cap3, hv3⟩ := owns_slice hown3
      rw [hv3] at hown3 ⊢
      have HX3 := Lib.hid (SliceIs.ownedK hown3)
      clear hown3 hv3 b02 b3 FE2 HX2
      have bf := below_one w3 (.cells #[.int .i64 mc, .int .i64 ma] 32)
      have hzf : (w3.alloc (.cells #[.int .i64 mc, .int .i64 ma] 32)).heap[w3.heap.size]? = some (.cells #[.int .i64 mc, .int .i64 ma] 32 (0, 0)) := heap_alloc_new _ _
      have hfb := b03.size
      go_wp2_with fail
      have FE4 := Lib.hid (FE3.out.below bf)
      have HX4 := Lib.hid (HX3.out.below bf)
      have HY4 := Lib.hid (HY3.out.below bf)
      have b04 := below_trans' b03 bf
      generalize w3.heap.size = fb at *
      generalize w3.alloc (.cells #[.int .i64 mc, .int .i64 ma] 32) = w4 at *
      clear bf b03 FE3 HX3 HY3
      refine (faulted_yes E u2 mc ma w4 FE4.out (HE.out.below b04) (by omega)).mono ?_
      rintro e w5 ⟨rfl, b5⟩
      have b05 := below_trans' b04 b5
      have SO := sameOps_any _ _ _ _ _ _ mo mo w5 (HY4.out.below b5) (HX4.out.below b5)
      rw [sameO_yes rfl] at SO
      have HSO := Lib.hid SO
      have hz5 := (b5.block fb (lt_of_block hzf)).trans hzf
      clear b04 b5 FE4 HX4 HY4 SO hzf
      go_wp2_with fail
      refine HSO.out.mono ?_
      rintro e w6 ⟨rfl, d6⟩
      have b6 := d6.below w5.heap.size
      have b06 := below_trans' b05 b6
      have hz6 := (b6.block fb (lt_of_block hz5)).trans hz5
      clear b05 d6 b6 hz5 HSO
      go_wp2_with fail
      refine (HRO.out w6 b06).mono ?_
      rintro e w7 ⟨rfl, b7⟩
      have b07 := below_trans' b06 b7
      have hz7 := (b7.block fb (lt_of_block hz6)).trans hz6
      clear b06 b7 hz6
      have f0 : w7.frozen? ⟨fb, 0, none⟩ = false := by simp [World.frozen?, hz7]
      have f1 : w7.frozen? ⟨fb, 1, none⟩ = false := by simp [World.frozen?, hz7]
      have e0 : w7.cell? ⟨fb, 0, none⟩ = some (.int .i64 mc) := by simp [World.cell?, hz7]
      have e1 : w7.cell? ⟨fb, 1, none⟩ = some (.int .i64 ma) := by simp [World.cell?, hz7]
      have hz8 := put2 hz7 (.int .i64 code) (.int .i64 at')
      have b08 := (b07.setCell (p := ⟨fb, 0, none⟩) hfb (.int .i64 code)).setCell (p := ⟨fb, 1, none⟩) hfb (.int .i64 at')
      go_wp2_with fail
      generalize (w7.setCell ⟨fb, 0, none⟩ (.int .i64 code)).setCell ⟨fb, 1, none⟩ (.int .i64 at') = w8 at *
      clear f0 f1 e0 e1 hz7 b07
      have FB := Lib.hid (fun (w' : World) (b : Below w8.heap.size w8 w') => show w'.cell? ⟨fb, 0, none⟩ = some (.int .i64 code) ∧ w'.cell? ⟨fb, 1, none⟩ = some (.int .i64 at') from by
        have h := (b.block fb (lt_of_block hz8)).trans hz8
        constructor <;> simp [World.cell?, h])
      clear hz8
      refine (OO.out w8 b08).mono ?_
      rintro e w9 ⟨v9, rfl, hown9, b9⟩
      have b09 := below_trans' b08 b9
      obtain ⟨A9, cap9, hv9⟩ := owns_slice hown9
      rw [hv9] at hown9 ⊢
      have HX9 := Lib.hid (SliceIs.ownedK hown9)
      clear hown9 hv9
      go_wp2_with fail
      refine (HDT.out w9 _ _ b09 HX9.out).mono ?_
      rintro e wa ⟨va, rfl, fea, ba⟩
      have b0a := below_trans' b09 ba
      have b8a := below_trans' b9 ba
      have FEa := Lib.hid fea
      clear b09 b9 ba fea HX9
      have BR := Below.refl wa.heap.size wa
      have DD : Hid (∀ w' : World, Below wa.heap.size wa w' → (w'.cell? ⟨fb, 0, none⟩ = some (.int .i64 code) ∧ w'.cell? ⟨fb, 1, none⟩ = some (.int .i64 at')) ∧ Below wa.heap.size wa w') := fun w' b => ⟨FB.out w' (below_trans' b8a b), b⟩
      have Sa := DD.out wa BR
      have WW : Hid (∀ w' : World, Below wa.heap.size wa w' → Below w.heap.size w w') := fun w' b => below_trans' b0a b
      have FEB : Hid (∀ w' : World, Below wa.heap.size wa w' → FErr E w' va code at') := fun w' b => FEa.out.below b
      clear FB b0a b8a b08 FEa hfb
      go_wp2_with fail
      go_region_held3 (fun w' => (w'.cell? ⟨fb, 0, none⟩ = some (.int .i64 code) ∧ w'.cell? ⟨fb, 1, none⟩ = some (.int .i64 at')) ∧ Below wa.heap.size wa w') (first | assumption | exact Sa | exact DD.out _ (by assumption) | exact DD.out _ (Below.drew BR))
        (first
        | (go_at_call 9; refine (OO.out _ ?_).mono ?_; (exact WW.out _ (by first | assumption | exact Below.drew BR)); rintro e wk ⟨vk, rfl, hownk, bk⟩; obtain ⟨Ak, capk, rfl⟩ := owns_slice hownk; have SLk := Lib.hid (SliceIs.ownedK hownk); have bbk := below_trans' (by first | assumption | exact Below.drew BR) bk; have SSk := DD.out _ bbk)
        | (go_at_call 36; refine (HDC.out _ Ak capk ?_ ?_).mono ?_; (exact WW.out _ (by assumption)); (exact SLk.out); rintro e wl ⟨vl, rfl, fel, bl⟩; have bbl := below_trans' (by assumption) bl; have SSl := DD.out _ bbl; have FEl := Lib.hid fel)
        | (go_at_call 11; refine (faulted_yes E _ code at' _ ?_ ?_ (by omega)).mono ?_; (first | exact FEl.out | exact FEB.out _ (by assumption)); (exact HE.out.below (WW.out _ (by assumption))); rintro e wn ⟨rfl, bn⟩; have bbn := below_trans' (by assumption) bn; have SSn := DD.out _ bbn))
      have b0n := WW.out _ bbn
      obtain ⟨d0, d1⟩ := SSn.1
      clear BR DD WW FEB Sa SSk SSl SSn SLk bbk bbl bbn bk bl bn hownk fel FEl
      go_upto_region 12 with fail
      go_cut [117] (fun x wz => x = .bool false ∧ Below w.heap.size w wz)
      case first =>
        by_cases hc : code = 0
        · subst hc
          have htx := HTF.out rfl
          subst htx
          go_wp2_with fail
          refine (RT.out (by first | exact rfl | trivial) wn b0n).mono ?_
          rintro e wo ⟨rfl, bo⟩
          have b0o := below_trans' b0n bo
          go_wp2_with fail
          go_meet
          exact ⟨rfl, b0o⟩
        · have hcI : (0 : Int) < code := by omega
          have hcb : ((code : Int) == 0) = false := by rw [beq_eq_false_iff_ne]; omega
          have htx := HTB.out hc
          have hbq : (bs TX == (⟨#[]⟩ : ByteArray)) = true := by rw [htx, bs_nil]; rfl
          have hbl : (bs TX).toList = [] := by rw [htx, bs_nil]; first | decide +kernel | simp
          have hbn : (bs TX != (⟨#[]⟩ : ByteArray)) = false := by rw [htx, bs_nil]; rfl
          clear htx
          go_wp2_with fail
          all_goals first | (exact absurd hbl (by assumption)) | (go_meet; exact ⟨rfl, b0n⟩)
      case rest =>
        obtain ⟨rfl, bx⟩ := hcut
        clear b0n d0 d1
        go_wp2_with fail
        go_loopw [17, 18] (fun n i wr => ∃ k : Nat, i = .int .i64 k ∧ k ≤ a3.length ∧ n = .int .i64 (costN (a3.take k)) ∧ Below wc.heap.size wc wr) (fun _ i _ => a3.length - (intOf i).toNat)
        case atStart => exact ⟨0, rfl, by omega, by simp [costN_nil], Below.refl _ _⟩
        case round =>
          obtain ⟨k, rfl, hk, rfl, bel⟩ := hrel
          have hle := costN_le a3 k
          by_cases hlt : k < a3.length
          · have hltI : (k : Int) < a3.length := by omega
            obtain ⟨ad, rfl, d0, d1, d2, d3⟩ := ops_cells ((HO.out.below bx).below bel) k hlt
            have KK := Lib.hid (show k + 1 ≤ a3.length by omega)
            have htk := List.take_succ_eq_append_getElem hlt
            have hle2 := costN_le a3 (k + 1)
            have hst : costN (a3.take (k + 1)) = costN (a3.take k) + a3[k].data.length := by rw [htk, costN_append, costN_one]; rfl
            have x1 : (0 : Int) ≤ k := by omega
            have x2 : (k : Int).toNat = k := by omega
            generalize a3[k] = o at d0 d1 d2 d3 hst
            have hle3 : o.data.length ≤ 1000000000 := by omega
            have HST := Lib.hid hst
            clear htk hst hle2
            go_wp2_with fail
            go_roundw
            case rel => exact ⟨k + 1, by go_num, KK.out, by rw [HST.out]; go_num, bel⟩
            case measure => simp [intOf]; omega
          · have hltI : ¬ (k : Int) < a3.length := by omega
            have htk : a3.take k = a3 := List.take_of_length_le (by omega)
            rw [htk]
            clear htk hle
            have b0r := below_trans' bx bel
            clear bx bel
            go_wp2_with fail
            refine (HDR.out wr b0r).mono ?_
            rintro e wp ⟨vp, rfl, hownp, bp⟩
            have b0p := below_trans' b0r bp
            obtain ⟨Ap, capp, hvp⟩ := owns_slice hownp
            rw [hvp] at hownp ⊢
            have HXp := Lib.hid (SliceIs.ownedK hownp)
            clear hownp hvp b0r bp
            go_wp2_with fail
            refine (HRR.out wp).mono ?_
            rintro e wq ⟨vq, rfl, hownq, bq⟩
            have b0q := below_trans' b0p bq
            have HXq := Lib.hid (HXp.out.below bq)
            obtain ⟨Aq, capq, hvq⟩ := owns_slice hownq
            rw [hvq] at hownq ⊢
            have HYq := Lib.hid (SliceIs.ownedK hownq)
            clear hownq hvq b0p bq HXp
            go_wp2_with fail
            refine (coded_ev E rc wq (HE.out.below b0q) (by omega)).mono ?_
            rintro e ws ⟨rfl, bS⟩
            have b0s := below_trans' b0q bS
            have SO := sameOps_any _ _ _ _ _ _ ro ro ws (HXq.out.below bS) (HYq.out.below bS)
            rw [sameO_yes rfl] at SO
            have HSO := Lib.hid SO
            clear b0q bS HXq HYq SO
            go_wp2_with fail
            refine HSO.out.mono ?_
            rintro e wt ⟨rfl, dt⟩
            have b0t := below_trans' b0s (dt.below ws.heap.size)
            clear b0s dt HSO
            go_wp2_with fail
            refine (OO.out wt b0t).mono ?_
            rintro e wu ⟨vu, rfl, hownu, bu⟩
            have b0u := below_trans' b0t bu
            obtain ⟨Au, capu, hvu⟩ := owns_slice hownu
            rw [hvu] at hownu ⊢
            have HXu := Lib.hid (SliceIs.ownedK hownu)
            clear hownu hvu b0t bu
            go_wp2_with fail
            refine (CO.out wu _ _ HXu.out).mono ?_
            rintro e wv ⟨rfl, bv⟩
            have b0v := below_trans' b0u bv
            go_wp2_with fail
            go_ret
            exact ⟨by simp, b0v⟩
  · by_cases hA : l.length ≤ 40 ∧ (S.length ≤ 200 ∨ S.length = 4001)
    · obtain ⟨h40, hS⟩ := id hA
      have h40I : ¬ (40 : Int) < l.length := by omega
      have hSI : ¬ (200 : Int) < S.length ∨ (200 : Int) < S.length ∧ ((S.length : Int) != 4001) = false := by
        rcases hS with h | h
        · exact .inl (by omega)
        · exact .inr ⟨by omega, by rw [bne_eq_false_iff_eq]; omega⟩
      cases hlb : longB a3 with
      | true =>
        rw [hlb] at LO
        clear h0 hA h40 hS hlb
        rcases hSI with hSI | ⟨hSI, hSJ⟩
        all_goals
          go_enter Tryd.func5, Tryd.ntmps5
          go_wp2_with (first | (go_at_call 30; refine MO.out.mono ?_; rintro e w0 ⟨rfl, b0⟩) | (go_at_call 7; refine (LO.out _ b0).mono ?_; rintro e wq ⟨rfl, rfl⟩))
          go_ret
          exact ⟨rfl, b0⟩
      | false =>
        rw [hlb] at LO
        have hT : ¬ (T.length ≤ 400 ∨ T.length = 20001) := fun h => h0 ⟨hA, hlb, h⟩
        have hT1 : (400 : Int) < T.length := by omega
        have hT2 : ((T.length : Int) != 20001) = true := by rw [bne_iff_ne]; omega
        clear h0 hA h40 hS hlb hT
        rcases hSI with hSI | ⟨hSI, hSJ⟩
        all_goals
          go_enter Tryd.func5, Tryd.ntmps5
          go_wp2_with (first | (go_at_call 30; refine MO.out.mono ?_; rintro e w0 ⟨rfl, b0⟩) | (go_at_call 7; refine (LO.out _ b0).mono ?_; rintro e wq ⟨rfl, rfl⟩))
          go_ret
          exact ⟨rfl, b0⟩
    · have h3 : (40 : Int) < l.length ∨ (¬ (40 : Int) < l.length ∧ (200 : Int) < S.length ∧ ((S.length : Int) != 4001) = true) := by
        rw [bne_iff_ne]; omega
      clear h0 hA
      rcases h3 with h | ⟨h, h', h''⟩
      all_goals
        go_enter Tryd.func5, Tryd.ntmps5
        go_wp2_with (first | (go_at_call 30; refine MO.out.mono ?_; rintro e w0 ⟨rfl, b0⟩) | (go_at_call 7; refine (LO.out _ b0).mono ?_; rintro e wq ⟨rfl, rfl⟩))
        go_ret
        exact ⟨rfl, b0⟩
end Go.Proofs.YtkhjhbgoccljfaaDoor
