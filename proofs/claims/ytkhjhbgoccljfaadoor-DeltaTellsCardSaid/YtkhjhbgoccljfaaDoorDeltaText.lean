import Derived.Test.YtkhjhbgoccljfaaDoorOps2
namespace Go.Proofs.YtkhjhbgoccljfaaDoor
open Go.RowKit
set_option linter.unusedVariables false

/-- one op's text -/
def oText1 (o : POp) : List UInt8 := if o.kind = kCopy then num 0 ++ num o.a.toNat ++ num o.n.toNat else num 1 ++ (num o.data.length ++ o.data)
def opsT (l : List POp) : List UInt8 := l.flatMap oText1
def oText (l : List POp) : List UInt8 := num l.length ++ opsT l
theorem oText1_copy {o : POp} (h : o.kind = kCopy) : oText1 o = num 0 ++ num o.a.toNat ++ num o.n.toNat := by unfold oText1; rw [if_pos h]
theorem oText1_data {o : POp} (h : o.kind ≠ kCopy) : oText1 o = num 1 ++ (num o.data.length ++ o.data) := by unfold oText1; rw [if_neg h]
theorem opsT_nil : opsT [] = [] := rfl
theorem opsT_append (a b : List POp) : opsT (a ++ b) = opsT a ++ opsT b := by simp [opsT]
theorem opsT_one (o : POp) : opsT [o] = oText1 o := by simp [opsT]
theorem opsT_cons (o : POp) (l : List POp) : opsT (o :: l) = oText1 o ++ opsT l := by simp [opsT]
theorem oText_is (l : List POp) : oText l = num l.length ++ opsT l := rfl
theorem oText1_len (o : POp) : (oText1 o).length ≤ 21 + o.data.length := by
  unfold oText1
  split
  · have := num_len 0; have := num_len o.a.toNat; have := num_len o.n.toNat; simp only [List.length_append]; omega
  · have := num_len 1; have := num_len o.data.length; simp only [List.length_append]; omega
theorem opsT_len (l : List POp) : (opsT l).length ≤ 21 * l.length + costN l := by
  induction l with
  | nil => simp [opsT_nil]
  | cons o l ih => rw [opsT_cons, costN_cons]; have := oText1_len o; simp only [List.length_append, List.length_cons]; omega
theorem opsT_take (l : List POp) (k : Nat) : (opsT (l.take k)).length ≤ (opsT l).length := by
  have := opsT_append (l.take k) (l.drop k)
  rw [List.take_append_drop] at this
  rw [this]; simp
/-- what Text tells -/
def dtC (l : List POp) : Nat × Int := if (chkOps l).1 ≠ 0 then chkOps l else if 20000 < (oText l).length then (2, -1) else (0, -1)
def dtL (l : List POp) : List UInt8 := if (dtC l).1 = 0 then oText l else []
theorem dt_bad {l : List POp} (h : (chkOps l).1 ≠ 0) : dtC l = chkOps l ∧ dtL l = [] := by
  have e : dtC l = chkOps l := by unfold dtC; rw [if_pos h]
  exact ⟨e, by unfold dtL; rw [e, if_neg h]⟩
theorem dt_long {l : List POp} (h : (chkOps l).1 = 0) (h2 : 20000 < (oText l).length) : dtC l = (2, -1) ∧ dtL l = [] := by
  have e : dtC l = (2, -1) := by unfold dtC; rw [if_neg (by simp [h]), if_pos h2]
  exact ⟨e, by unfold dtL; rw [e, if_neg (by decide)]⟩
theorem dt_fine {l : List POp} (h : (chkOps l).1 = 0) (h2 : ¬ 20000 < (oText l).length) : dtC l = (0, -1) ∧ dtL l = oText l := by
  have e : dtC l = (0, -1) := by unfold dtC; rw [if_neg (by simp [h]), if_neg h2]
  exact ⟨e, by unfold dtL; rw [e, if_pos rfl]⟩
theorem chkOps_pair (l : List POp) (h : (chkOps l).1 = 0) : chkOps l = (0, -1) := by
  unfold chkOps at *
  have : ∀ (l : List POp) (i : Nat), (chkO l i).1 = 0 → chkO l i = (0, -1) := by
    intro l
    induction l with
    | nil => intro i _; rw [chkO]
    | cons o l ih => intro i h; rw [chkO] at h ⊢; split; · rename_i e; rw [if_pos e] at h; exact ih _ h
                     · rename_i e; rw [if_neg e] at h; exact absurd h e
  exact this l 0 h
attribute [irreducible] oText1 opsT oText dtC dtL

set_option maxRecDepth 100000 in
set_option maxHeartbeats 3200000 in
theorem dtext_any (E : Nat → Addr) (s0 : Option Addr) (n0 c0 : Nat) (l : List POp) (w : World) (hl : SliceIs w (.slice s0 n0 c0) 4 (ocells l)) (h2 : Has E w 2) (h3 : Has E w 3) (h4 : Has E w 4)
    (hlen : l.length ≤ 1000000) (hlong : (opsT l).length ≤ 100000000) :
    Calls Tryd.prog 35 #[.slice s0 n0 c0] w fun e w' => ∃ v, e = .returned (.tuple #[.string (bs (dtL l)), v]) ∧ FErr E w' v (dtC l).1 (dtC l).2 ∧ Below w.heap.size w w' := by
  have CH := Lib.hid (dcheck_any E s0 n0 c0 l w hl h2 h3 h4)
  by_cases hok : (chkOps l).1 = 0
  · obtain ⟨rfl, hc0, hc1⟩ := ops_len hl
    have HLS := Lib.hid hl
    have HB := Lib.hid h2
    have HOK := Lib.hid hok
    have HOKE := Lib.hid ((chkOps_ok l).1 hok)
    have HOT := Lib.hid (oText_is l)
    have HEZ := Lib.hid (ev_zero E)
    have HFIN := Lib.hid doneL_zero
    clear hl h2 h3 h4 hok
    go_enter Tryd.func35, Tryd.ntmps35
    go_wp2_with fail
    refine CH.out.mono ?_
    rintro e w1 ⟨v, rfl, fe, b1⟩
    rw [HOK.out] at fe
    rw [fe.zero]
    clear fe CH
    go_wp2_with fail
    have W0 := WAt.new E w1
    have bA := b1.alloc b1.size (.cells #[.slice none 0 0, .nilIface] 98)
    have hb : w.heap.size ≤ w1.heap.size := b1.size
    generalize w1.alloc (.cells #[.slice none 0 0, .nilIface] 98) = w2 at W0 bA ⊢
    generalize w1.heap.size = b at W0 hb ⊢
    clear b1
    refine (wnum_ok E b _ _ _ (by simp) W0 (HB.out.below bA) (by omega) (by omega)).mono ?_
    rintro e w3 ⟨rfl, W3, K3⟩
    have b3 := K3.old bA hb W0.lt
    have x0 : ((l.length : Int)).toNat = l.length := by omega
    rw [List.nil_append, x0] at W3
    clear K3 bA W0 x0
    go_wp2_with fail
    go_loopw [23, 7] (fun i _ wr => ∃ k : Nat, i = .int .i64 k ∧ k ≤ l.length ∧ WAt E wr b (num l.length ++ opsT (l.take k)) 0 ∧ Below w.heap.size w wr) (fun i _ _ => l.length - (intOf i).toNat)
    case atStart => exact ⟨0, rfl, by omega, by simpa [opsT_nil] using W3, b3⟩
    case round =>
      clear W3 b3
      obtain ⟨k, rfl, hk, W, bel⟩ := hrel
      by_cases hlt : k < l.length
      · have hltI : (k : Int) < l.length := by omega
        obtain ⟨ad, rfl, d0, d1, d2, d3⟩ := ops_cells (HLS.out.below bel) k hlt
        have KK := Lib.hid (show k + 1 ≤ l.length by omega)
        have x1 : (0 : Int) ≤ k := by omega
        have x2 : (k : Int).toNat = k := by omega
        have hop := HOKE.out _ (List.getElem_mem hlt)
        have htk := Lib.hid (List.take_succ_eq_append_getElem hlt)
        have hlen1 := opsT_take l k
        have hn2 := num_len l.length
        generalize l[k] = o at d0 d1 d2 d3 hop htk
        have hgb : b < wr.heap.size := W.lt
        have W1 := W.below (below_alloc' wr (.cells #[.string (bs o.kind), .int .i64 o.a, .int .i64 o.n, .string (bs o.data)] 67))
        have bel1 := bel.alloc bel.size (.cells #[.string (bs o.kind), .int .i64 o.a, .int .i64 o.n, .string (bs o.data)] 67)
        have G1 : (wr.alloc (.cells #[.string (bs o.kind), .int .i64 o.a, .int .i64 o.n, .string (bs o.data)] 67)).heap[wr.heap.size]? = some (.cells #[.string (bs o.kind), .int .i64 o.a, .int .i64 o.n, .string (bs o.data)] 67 (0, 0)) := heap_alloc_new _ _
        by_cases hkd : o.kind = kCopy
        · obtain ⟨y0, y1, y2, y3, y4⟩ := opC_copy hop hkd
          clear y0
          have hTX := Lib.hid (oText1_copy hkd)
          have HTC : Hid (((bs o.kind).toList == [99, 111, 112, 121]) = true) := by show _ = _; exact tl_eq _ _ (by rw [hkd, kCopy_is])
          have htc := HTC.out
          have hm1 := num_len o.a.toNat
          have hm0 := num_len (Int.toNat 0)
          clear hop hkd
          go_wp2_with fail
          generalize wr.alloc (.cells #[.string (bs o.kind), .int .i64 o.a, .int .i64 o.n, .string (bs o.data)] 67) = v1 at W1 bel1 G1 ⊢
          generalize wr.heap.size = g at G1 hgb ⊢
          clear W bel d0 d1 d2 d3
          refine (wnum_ok E b _ _ _ (by simp only [List.length_append]; omega) W1 (HB.out.below bel1) (by omega) (by omega)).mono ?_
          rintro e v2 ⟨rfl, W2, K2⟩
          have bel2 := K2.old bel1 hb W1.lt
          have G2 := K2.obj G1 (by omega) (by decide)
          clear K2 bel1 W1 G1
          have f1 : v2.cell? ⟨g, 1, none⟩ = some (.int .i64 o.a) := by simp [World.cell?, G2]
          go_wp2_with fail
          refine (wnum_ok E b _ _ _ (by simp only [List.length_append]; omega) W2 (HB.out.below bel2) (by omega) (by omega)).mono ?_
          rintro e v3 ⟨rfl, W3, K3⟩
          have bel3 := K3.old bel2 hb W2.lt
          have G3 := K3.obj G2 (by omega) (by decide)
          clear K3 bel2 W2 G2
          have f2 : v3.cell? ⟨g, 2, none⟩ = some (.int .i64 o.n) := by simp [World.cell?, G3]
          go_wp2_with fail
          refine (wnum_ok E b _ _ _ (by simp only [List.length_append]; omega) W3 (HB.out.below bel3) (by omega) (by omega)).mono ?_
          rintro e v4 ⟨rfl, W4, K4⟩
          have bel4 := K4.old bel3 hb W3.lt
          clear K4 bel3 W3 G3
          go_wp2_with fail
          go_roundw
          case rel => exact ⟨k + 1, by go_num, KK.out, by rw [htk.out, opsT_append, opsT_one, hTX.out]; simpa [List.append_assoc] using W4, bel4⟩
          case measure => simp [intOf]; omega
        · have hkd2 : o.kind = kData := (opC_kind hop).resolve_left hkd
          obtain ⟨y01, y02, y1, y2⟩ := opC_data hop hkd2
          clear y01 y02
          have hTX := Lib.hid (oText1_data hkd)
          have HTC : Hid (((bs o.kind).toList == [99, 111, 112, 121]) = false) := by show _ = _; exact tl_ne _ _ (by rw [← kCopy_is]; exact hkd)
          have htc := HTC.out
          have hm0 := num_len (Int.toNat 1)
          clear hop hkd hkd2
          go_wp2_with fail
          generalize wr.alloc (.cells #[.string (bs o.kind), .int .i64 o.a, .int .i64 o.n, .string (bs o.data)] 67) = v1 at W1 bel1 G1 ⊢
          generalize wr.heap.size = g at G1 hgb ⊢
          clear W bel d0 d1 d2 d3
          refine (wnum_ok E b _ _ _ (by simp only [List.length_append]; omega) W1 (HB.out.below bel1) (by omega) (by omega)).mono ?_
          rintro e v2 ⟨rfl, W2, K2⟩
          have bel2 := K2.old bel1 hb W1.lt
          have G2 := K2.obj G1 (by omega) (by decide)
          clear K2 bel1 W1 G1
          have f1 : v2.cell? ⟨g, 3, none⟩ = some (.string (bs o.data)) := by simp [World.cell?, G2]
          go_wp2_with fail
          refine (wtext_ok E b _ _ _ (by simp only [List.length_append]; omega) W2 (HB.out.below bel2) (by rw [bs_size]; omega)).mono ?_
          rintro e v3 ⟨rfl, W3, K3⟩
          have bel3 := K3.old bel2 hb W2.lt
          rw [bs_size, bs_list] at W3
          clear K3 bel2 W2 G2
          go_wp2_with fail
          go_roundw
          case rel => exact ⟨k + 1, by go_num, KK.out, by rw [htk.out, opsT_append, opsT_one, hTX.out]; simpa [List.append_assoc] using W3, bel3⟩
          case measure => simp [intOf]; omega
      · have hltI : ¬ (k : Int) < l.length := by omega
        have htk : l.take k = l := List.take_of_length_le (by omega)
        rw [htk, ← HOT.out] at W
        have hol : (oText l).length ≤ 100000007 := by rw [HOT.out]; have := num_len l.length; simp only [List.length_append]; omega
        have D := wdone_any E b _ 0 wr (fun _ => by rw [HOT.out]; have := num_pos l.length; simp only [List.length_append]; omega) W
        rw [HFIN.out, HEZ.out] at D
        have HD := Lib.hid D
        clear D htk W
        by_cases h20 : 20000 < (oText l).length
        · have h20I : (20000 : Int) < (oText l).length := by omega
          have Z := Lib.hid (dt_long HOK.out h20)
          go_wp2_with fail
          refine HD.out.mono ?_
          rintro e w9 ⟨rfl, b9⟩
          have bel9 := below_trans' bel (b9.below _)
          have c2 : w9.cell? ⟨0, 0, none⟩ = some (errv (E 2)) := HB.out.below bel9
          unfold errv at c2
          clear bel b9
          go_wp2_with fail
          go_ret2
          exact ⟨.iface 163 (.pointer (some (E 2))), ret2 (by rw [Z.out.2, bs_nil]; rfl) rfl, by rw [Z.out.1]; have h := FErr.ev E w9 2; rw [ev_pos E (by decide)] at h; exact h, bel9⟩
        · have h20I : ¬ (20000 : Int) < (oText l).length := by omega
          have Z := Lib.hid (dt_fine HOK.out h20)
          go_wp2_with fail
          refine HD.out.mono ?_
          rintro e w9 ⟨rfl, b9⟩
          have bel9 := below_trans' bel (b9.below _)
          clear bel b9
          go_wp2_with fail
          go_ret2
          exact ⟨.nilIface, ret2 (by rw [Z.out.2]; rfl) rfl, by rw [Z.out.1]; exact FErr.nil E _, bel9⟩
  · have Z := Lib.hid (dt_bad hok)
    have HOK := Lib.hid hok
    clear hl h2 h3 h4 hok hlen hlong
    rw [Z.out.1, Z.out.2]
    go_enter Tryd.func35, Tryd.ntmps35
    go_wp2_with fail
    refine CH.out.mono ?_
    rintro e w1 ⟨v, rfl, fe, b1⟩
    obtain ⟨t, p, hv⟩ := fe.some HOK.out
    have FE := Lib.hid fe
    clear fe
    rw [hv] at FE ⊢
    go_wp2_with fail
    go_ret2
    exact ⟨.iface t (.pointer (some p)), ret2 (by rw [bs_nil]; rfl) rfl, FE.out, b1⟩
end Go.Proofs.YtkhjhbgoccljfaaDoor
