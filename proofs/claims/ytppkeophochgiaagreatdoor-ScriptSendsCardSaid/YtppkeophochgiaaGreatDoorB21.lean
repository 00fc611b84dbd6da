/- Texts of one proof, one behind the other: DeltaText, OpRead, DeltaRead, ArgGen. -/
import Derived.Test.YtppkeophochgiaaGreatDoorB19
import Derived.Test.YtppkeophochgiaaGreatDoorB20
import Derived.Test.YtppkeophochgiaaGreatDoorB04
import Derived.Test.YtppkeophochgiaaGreatDoorB16
import Derived.Deep.Slices
import Derived.Deep.Fields
namespace Go.Proofs.YtppkeophochgiaaGreatDoor
open Go.RowKit
set_option linter.unusedVariables false

/-- one op's text -/
def oText1 (o : POp) : List UInt8 := if o.kind = kCopy then num 0 ++ num o.a.toNat ++ num o.n.toNat else num 1 ++ (num o.data.length ++ o.data)
def opsT (l : List POp) : List UInt8 := l.flatMap oText1
def oText (l : List POp) : List UInt8 := num l.length ++ opsT l
theorem oText1_copy {o : POp} (h : o.kind = kCopy) : oText1 o = num 0 ++ num o.a.toNat ++ num o.n.toNat := by unfold oText1; rw [if_pos h]
theorem oText1_data {o : POp} (h : o.kind ≠ kCopy) : oText1 o = num 1 ++ (num o.data.length ++ o.data) := by unfold oText1; rw [if_neg h]
theorem opsT_nil : opsT [] = [] := rfl
theorem opsT_append (a b : List POp) : opsT (a ++ b) = opsT a ++ opsT b := by simp [opsT]
theorem opsT_one (o : POp) : opsT [o] = oText1 o := by simp [opsT]
theorem opsT_cons (o : POp) (l : List POp) : opsT (o :: l) = oText1 o ++ opsT l := by simp [opsT]
theorem oText_is (l : List POp) : oText l = num l.length ++ opsT l := rfl
theorem oText1_len (o : POp) : (oText1 o).length ≤ 21 + o.data.length := by
  unfold oText1
  split
  · have := num_len 0; have := num_len o.a.toNat; have := num_len o.n.toNat; simp only [List.length_append]; omega
  · have := num_len 1; have := num_len o.data.length; simp only [List.length_append]; omega
theorem opsT_len (l : List POp) : (opsT l).length ≤ 21 * l.length + costN l := by
  induction l with
  | nil => simp [opsT_nil]
  | cons o l ih => rw [opsT_cons, costN_cons]; have := oText1_len o; simp only [List.length_append, List.length_cons]; omega
theorem opsT_take (l : List POp) (k : Nat) : (opsT (l.take k)).length ≤ (opsT l).length := by
  have := opsT_append (l.take k) (l.drop k)
  rw [List.take_append_drop] at this
  rw [this]; simp
/-- what Text tells -/
def dtC (l : List POp) : Nat × Int := if (chkOps l).1 ≠ 0 then chkOps l else if 20000 < (oText l).length then (2, -1) else (0, -1)
def dtL (l : List POp) : List UInt8 := if (dtC l).1 = 0 then oText l else []
theorem dt_bad {l : List POp} (h : (chkOps l).1 ≠ 0) : dtC l = chkOps l ∧ dtL l = [] := by
  have e : dtC l = chkOps l := by unfold dtC; rw [if_pos h]
  exact ⟨e, by unfold dtL; rw [e, if_neg h]⟩
theorem dt_long {l : List POp} (h : (chkOps l).1 = 0) (h2 : 20000 < (oText l).length) : dtC l = (2, -1) ∧ dtL l = [] := by
  have e : dtC l = (2, -1) := by unfold dtC; rw [if_neg (by simp [h]), if_pos h2]
  exact ⟨e, by unfold dtL; rw [e, if_neg (by decide)]⟩
theorem dt_fine {l : List POp} (h : (chkOps l).1 = 0) (h2 : ¬ 20000 < (oText l).length) : dtC l = (0, -1) ∧ dtL l = oText l := by
  have e : dtC l = (0, -1) := by unfold dtC; rw [if_neg (by simp [h]), if_neg h2]
  exact ⟨e, by unfold dtL; rw [e, if_pos rfl]⟩
attribute [irreducible] oText1 opsT oText dtC dtL
set_option maxRecDepth 100000 in
set_option maxHeartbeats 3200000 in
theorem dtext_any (E : Nat → Addr) (s0 : Option Addr) (n0 c0 : Nat) (l : List POp) (w : World) (hl : SliceIs w (.slice s0 n0 c0) 4 (ocells l)) (h2 : Has E w 2) (h3 : Has E w 3) (h4 : Has E w 4)
    (hlen : l.length ≤ 1000000) (hlong : (opsT l).length ≤ 100000000) :
    Calls Tryz.prog 225 #[.slice s0 n0 c0] w fun e w' => ∃ v, e = .returned (.tuple #[.string (bs (dtL l)), v]) ∧ FErr E w' v (dtC l).1 (dtC l).2 ∧ Below w.heap.size w w' := by
  have CH := Lib.hid (dcheck_any E s0 n0 c0 l w hl h2 h3 h4)
  by_cases hok : (chkOps l).1 = 0
  · obtain ⟨rfl, hc0, hc1⟩ := ops_len hl
    have HLS := Lib.hid hl
    have HB := Lib.hid h2
    have HOK := Lib.hid hok
    have HOKE := Lib.hid ((chkOps_ok l).1 hok)
    have HOT := Lib.hid (oText_is l)
    have HEZ := Lib.hid (ev_zero E)
    have HFIN := Lib.hid doneL_zero
    clear hl h2 h3 h4 hok
    go_enter Tryz.func225, Tryz.ntmps225
    go_wp2_with fail
    refine CH.out.mono ?_
    rintro e w1 ⟨v, rfl, fe, b1⟩
    rw [HOK.out] at fe
    rw [fe.zero]
    clear fe CH
    go_wp2_with fail
    have W0 := WAt.new E w1
    have bA := b1.alloc b1.size (.cells #[.slice none 0 0, .nilIface] 312)
    have hb : w.heap.size ≤ w1.heap.size := b1.size
    generalize w1.alloc (.cells #[.slice none 0 0, .nilIface] 312) = w2 at W0 bA ⊢
    generalize w1.heap.size = b at W0 hb ⊢
    clear b1
    refine (wnum_ok E b _ _ _ (by simp) W0 (HB.out.below bA) (by omega) (by omega)).mono ?_
    rintro e w3 ⟨rfl, W3, K3⟩
    have b3 := K3.old bA hb W0.lt
    have x0 : ((l.length : Int)).toNat = l.length := by omega
    rw [List.nil_append, x0] at W3
    clear K3 bA W0 x0
    go_wp2_with fail
    go_loopw [23, 7] (fun i _ wr => ∃ k : Nat, i = .int .i64 k ∧ k ≤ l.length ∧ WAt E wr b (num l.length ++ opsT (l.take k)) 0 ∧ Below w.heap.size w wr) (fun i _ _ => l.length - (intOf i).toNat)
    case atStart => exact ⟨0, rfl, by omega, by simpa [opsT_nil] using W3, b3⟩
    case round =>
      clear W3 b3
      obtain ⟨k, rfl, hk, W, bel⟩ := hrel
      by_cases hlt : k < l.length
      · have hltI : (k : Int) < l.length := by omega
        obtain ⟨ad, rfl, d0, d1, d2, d3⟩ := ops_cells (HLS.out.below bel) k hlt
        have KK := Lib.hid (show k + 1 ≤ l.length by omega)
        have x1 : (0 : Int) ≤ k := by omega
        have x2 : (k : Int).toNat = k := by omega
        have hop := HOKE.out _ (List.getElem_mem hlt)
        have htk := Lib.hid (List.take_succ_eq_append_getElem hlt)
        have hlen1 := opsT_take l k
        have hn2 := num_len l.length
        generalize l[k] = o at d0 d1 d2 d3 hop htk
        have hgb : b < wr.heap.size := W.lt
        have W1 := W.below (below_alloc' wr (.cells #[.string (bs o.kind), .int .i64 o.a, .int .i64 o.n, .string (bs o.data)] 106))
        have bel1 := bel.alloc bel.size (.cells #[.string (bs o.kind), .int .i64 o.a, .int .i64 o.n, .string (bs o.data)] 106)
        have G1 : (wr.alloc (.cells #[.string (bs o.kind), .int .i64 o.a, .int .i64 o.n, .string (bs o.data)] 106)).heap[wr.heap.size]? = some (.cells #[.string (bs o.kind), .int .i64 o.a, .int .i64 o.n, .string (bs o.data)] 106 (0, 0)) := heap_alloc_new _ _
        by_cases hkd : o.kind = kCopy
        · obtain ⟨y0, y1, y2, y3, y4⟩ := opC_copy hop hkd
          clear y0
          have hTX := Lib.hid (oText1_copy hkd)
          have HTC : Hid (((bs o.kind).toList == [99, 111, 112, 121]) = true) := by show _ = _; exact tl_eq _ _ (by rw [hkd, kCopy_is])
          have htc := HTC.out
          have hm1 := num_len o.a.toNat
          have hm0 := num_len (Int.toNat 0)
          clear hop hkd
          go_wp2_with fail
          generalize wr.alloc (.cells #[.string (bs o.kind), .int .i64 o.a, .int .i64 o.n, .string (bs o.data)] 106) = v1 at W1 bel1 G1 ⊢
          generalize wr.heap.size = g at G1 hgb ⊢
          clear W bel d0 d1 d2 d3
          refine (wnum_ok E b _ _ _ (by simp only [List.length_append]; omega) W1 (HB.out.below bel1) (by omega) (by omega)).mono ?_
          rintro e v2 ⟨rfl, W2, K2⟩
          have bel2 := K2.old bel1 hb W1.lt
          have G2 := K2.obj G1 (by omega) (by decide)
          clear K2 bel1 W1 G1
          have f1 : v2.cell? ⟨g, 1, none⟩ = some (.int .i64 o.a) := by simp [World.cell?, G2]
          go_wp2_with fail
          refine (wnum_ok E b _ _ _ (by simp only [List.length_append]; omega) W2 (HB.out.below bel2) (by omega) (by omega)).mono ?_
          rintro e v3 ⟨rfl, W3, K3⟩
          have bel3 := K3.old bel2 hb W2.lt
          have G3 := K3.obj G2 (by omega) (by decide)
          clear K3 bel2 W2 G2
          have f2 : v3.cell? ⟨g, 2, none⟩ = some (.int .i64 o.n) := by simp [World.cell?, G3]
          go_wp2_with fail
          refine (wnum_ok E b _ _ _ (by simp only [List.length_append]; omega) W3 (HB.out.below bel3) (by omega) (by omega)).mono ?_
          rintro e v4 ⟨rfl, W4, K4⟩
          have bel4 := K4.old bel3 hb W3.lt
          clear K4 bel3 W3 G3
          go_wp2_with fail
          go_roundw
          case rel => exact ⟨k + 1, by go_num, KK.out, by rw [htk.out, opsT_append, opsT_one, hTX.out]; simpa [List.append_assoc] using W4, bel4⟩
          case measure => simp [intOf]; omega
        · have hkd2 : o.kind = kData := (opC_kind hop).resolve_left hkd
          obtain ⟨y01, y02, y1, y2⟩ := opC_data hop hkd2
          clear y01 y02
          have hTX := Lib.hid (oText1_data hkd)
          have HTC : Hid (((bs o.kind).toList == [99, 111, 112, 121]) = false) := by show _ = _; exact tl_ne _ _ (by rw [← kCopy_is]; exact hkd)
          have htc := HTC.out
          have hm0 := num_len (Int.toNat 1)
          clear hop hkd hkd2
          go_wp2_with fail
          generalize wr.alloc (.cells #[.string (bs o.kind), .int .i64 o.a, .int .i64 o.n, .string (bs o.data)] 106) = v1 at W1 bel1 G1 ⊢
          generalize wr.heap.size = g at G1 hgb ⊢
          clear W bel d0 d1 d2 d3
          refine (wnum_ok E b _ _ _ (by simp only [List.length_append]; omega) W1 (HB.out.below bel1) (by omega) (by omega)).mono ?_
          rintro e v2 ⟨rfl, W2, K2⟩
          have bel2 := K2.old bel1 hb W1.lt
          have G2 := K2.obj G1 (by omega) (by decide)
          clear K2 bel1 W1 G1
          have f1 : v2.cell? ⟨g, 3, none⟩ = some (.string (bs o.data)) := by simp [World.cell?, G2]
          go_wp2_with fail
          refine (wtext_ok E b _ _ _ (by simp only [List.length_append]; omega) W2 (HB.out.below bel2) (by rw [bs_size]; omega)).mono ?_
          rintro e v3 ⟨rfl, W3, K3⟩
          have bel3 := K3.old bel2 hb W2.lt
          rw [bs_size, bs_list] at W3
          clear K3 bel2 W2 G2
          go_wp2_with fail
          go_roundw
          case rel => exact ⟨k + 1, by go_num, KK.out, by rw [htk.out, opsT_append, opsT_one, hTX.out]; simpa [List.append_assoc] using W3, bel3⟩
          case measure => simp [intOf]; omega
      · have hltI : ¬ (k : Int) < l.length := by omega
        have htk : l.take k = l := List.take_of_length_le (by omega)
        rw [htk, ← HOT.out] at W
        have hol : (oText l).length ≤ 100000007 := by rw [HOT.out]; have := num_len l.length; simp only [List.length_append]; omega
        have D := wdone_any E b _ 0 wr (fun _ => by rw [HOT.out]; have := num_pos l.length; simp only [List.length_append]; omega) W
        rw [HFIN.out, HEZ.out] at D
        have HD := Lib.hid D
        clear D htk W
        by_cases h20 : 20000 < (oText l).length
        · have h20I : (20000 : Int) < (oText l).length := by omega
          have Z := Lib.hid (dt_long HOK.out h20)
          go_wp2_with fail
          refine HD.out.mono ?_
          rintro e w9 ⟨rfl, b9⟩
          have bel9 := below_trans' bel (b9.below _)
          have c2 : w9.cell? ⟨0, 0, none⟩ = some (errv (E 2)) := HB.out.below bel9
          unfold errv at c2
          clear bel b9
          go_wp2_with fail
          go_ret2
          exact ⟨.iface 345 (.pointer (some (E 2))), ret2 (by rw [Z.out.2, bs_nil]; rfl) rfl, by rw [Z.out.1]; have h := FErr.ev E w9 2; rw [ev_pos E (by decide)] at h; exact h, bel9⟩
        · have h20I : ¬ (20000 : Int) < (oText l).length := by omega
          have Z := Lib.hid (dt_fine HOK.out h20)
          go_wp2_with fail
          refine HD.out.mono ?_
          rintro e w9 ⟨rfl, b9⟩
          have bel9 := below_trans' bel (b9.below _)
          clear bel b9
          go_wp2_with fail
          go_ret2
          exact ⟨.nilIface, ret2 (by rw [Z.out.2]; rfl) rfl, by rw [Z.out.1]; exact FErr.nil E _, bel9⟩
  · have Z := Lib.hid (dt_bad hok)
    have HOK := Lib.hid hok
    clear hl h2 h3 h4 hok hlen hlong
    rw [Z.out.1, Z.out.2]
    go_enter Tryz.func225, Tryz.ntmps225
    go_wp2_with fail
    refine CH.out.mono ?_
    rintro e w1 ⟨v, rfl, fe, b1⟩
    obtain ⟨t, p, hv⟩ := fe.some HOK.out
    have FE := Lib.hid fe
    clear fe
    rw [hv] at FE ⊢
    go_wp2_with fail
    go_ret2
    exact ⟨.iface t (.pointer (some p)), ret2 (by rw [bs_nil]; rfl) rfl, FE.out, b1⟩
end Go.Proofs.YtppkeophochgiaaGreatDoor
/- Contract of delta.read. -/
namespace Go.Proofs.YtppkeophochgiaaGreatDoor
open Go.RowKit
set_option linter.unusedVariables false

def zop : POp := ⟨[], 0, 0, []⟩
/-- an op off a reader that has no error yet -/
def rdOp (l : List UInt8) : POp × List UInt8 × Nat :=
  if rnC l 0 ≠ 0 then (zop, rnR l 0, rnC l 0)
  else if rnN l 0 = 0 then (⟨kCopy, rnN (rnR l 0) 0, rnN (rnR (rnR l 0) 0) (rnC (rnR l 0) 0), []⟩, rnR (rnR (rnR l 0) 0) (rnC (rnR l 0) 0), rnC (rnR (rnR l 0) 0) (rnC (rnR l 0) 0))
  else if rnN l 0 = 1 then (⟨kData, 0, 0, rtT (rnR l 0) 0⟩, rtR (rnR l 0) 0, rtC (rnR l 0) 0)
  else (zop, rnR l 0, 1)
theorem rdOp_err {l : List UInt8} (h : rnC l 0 ≠ 0) : rdOp l = (zop, rnR l 0, rnC l 0) := by unfold rdOp; rw [if_pos h]
theorem rdOp_copy {l l1 l2 : List UInt8} {c2 : Nat} (h : rnC l 0 = 0) (hn : rnN l 0 = 0) (h1 : rnR l 0 = l1) (h2 : rnR l1 0 = l2) (h3 : rnC l1 0 = c2) : rdOp l = (⟨kCopy, rnN l1 0, rnN l2 c2, []⟩, rnR l2 c2, rnC l2 c2) := by
  subst h1 h2 h3; unfold rdOp; rw [if_neg (by simp [h]), if_pos hn]
theorem rdOp_data {l l1 : List UInt8} (h : rnC l 0 = 0) (hn : rnN l 0 = 1) (h1 : rnR l 0 = l1) : rdOp l = (⟨kData, 0, 0, rtT l1 0⟩, rtR l1 0, rtC l1 0) := by
  subst h1; unfold rdOp; rw [if_neg (by simp [h]), if_neg (by omega), if_pos hn]
theorem rdOp_kind {l : List UInt8} (h : rnC l 0 = 0) (hn : rnN l 0 ≠ 0) (hn1 : rnN l 0 ≠ 1) : rdOp l = (zop, rnR l 0, 1) := by
  unfold rdOp; rw [if_neg (by simp [h]), if_neg hn, if_neg hn1]
theorem rdOp_len (l : List UInt8) (h : (rdOp l).2.2 = 0) : (rdOp l).2.1.length < l.length := by
  by_cases h0 : rnC l 0 = 0
  · have hs := gR_short l (rnC_zero h0).2
    rw [← (rn_zero l).2.1] at hs
    by_cases h1 : rnN l 0 = 0
    · rw [rdOp_copy h0 h1 rfl rfl rfl]
      have a := rnR_len (rnR l 0) 0
      have b := rnR_len (rnR (rnR l 0) 0) (rnC (rnR l 0) 0)
      show (rnR (rnR (rnR l 0) 0) (rnC (rnR l 0) 0)).length < _
      omega
    · by_cases h2 : rnN l 0 = 1
      · rw [rdOp_data h0 h2 rfl]
        have a := rtR_len (rnR l 0) 0
        show (rtR (rnR l 0) 0).length < _
        omega
      · rw [rdOp_kind h0 h1 h2] at h; simp at h
  · rw [rdOp_err h0] at h; exact absurd h h0
theorem rdOp_le (l : List UInt8) : (rdOp l).2.1.length ≤ l.length := by
  have a0 := rnR_len l 0
  by_cases h0 : rnC l 0 = 0
  · by_cases h1 : rnN l 0 = 0
    · rw [rdOp_copy h0 h1 rfl rfl rfl]
      have a := rnR_len (rnR l 0) 0
      have b := rnR_len (rnR (rnR l 0) 0) (rnC (rnR l 0) 0)
      show (rnR (rnR (rnR l 0) 0) (rnC (rnR l 0) 0)).length ≤ _
      omega
    · by_cases h2 : rnN l 0 = 1
      · rw [rdOp_data h0 h2 rfl]
        have a := rtR_len (rnR l 0) 0
        show (rtR (rnR l 0) 0).length ≤ _
        omega
      · rw [rdOp_kind h0 h1 h2]; exact a0
  · rw [rdOp_err h0]; exact a0
attribute [irreducible] rdOp
theorem has_grown {E : Nat → Addr} {w w' : World} {c b d : Nat} {l : List UInt8} (h : Has E w c) (R : RAt E w b l d) (g : w.grownBy w' (some b)) : Has E w' c := by
  have hne : gOf c ≠ b := by
    intro e
    have := R.cs.1
    unfold Has at h
    rw [e, this] at h
    unfold errv at h
    simp at h
  unfold Has at *
  exact g.cell h (by intro e; exact hne (Option.some.inj e))
theorem copyV (x y : Int) : POp.val ⟨kCopy, x, y, []⟩ = .agg #[.string ⟨#[99, 111, 112, 121]⟩, .int .i64 x, .int .i64 y, .string ⟨#[]⟩] := by simp only [POp.val, bs_kCopy, bs_nil]
theorem dataV (d : List UInt8) : POp.val ⟨kData, 0, 0, d⟩ = .agg #[.string ⟨#[100, 97, 116, 97]⟩, .int .i64 0, .int .i64 0, .string (bs d)] := by simp only [POp.val, bs_kData]
theorem grown_set {w v : World} {b g k : Nat} {y : Value} (h : w.grownBy v (some b)) (hg : w.heap.size ≤ g) : w.grownBy (v.setCell ⟨g, k, none⟩ y) (some b) :=
  ⟨h.os, h.tape, h.output, by rw [World.size_setCell]; exact h.size, fun j hj hne => by rw [Below.heap_setCell _ _ _ _ (by show j ≠ g; omega)]; exact h.block j hj hne⟩
theorem set4 {E : Nat → Addr} {w v : World} {b g : Nat} {x0 x1 x2 x3 : Value} {t : TypeId} {m : List UInt8} {c : Nat} (h : v.heap[g]? = some (.cells #[x0, x1, x2, x3] t (0, 0))) (hb : g ≠ b) (R : RAt E v b m c) (hg : w.grownBy v (some b)) (hgw : w.heap.size ≤ g) (y0 y1 y2 y3 : Value) :
    ∃ v', v' = (((v.setCell ⟨g, 0, none⟩ y0).setCell ⟨g, 1, none⟩ y1).setCell ⟨g, 2, none⟩ y2).setCell ⟨g, 3, none⟩ y3 ∧ v'.cell? ⟨g, 0, none⟩ = some y0 ∧ v'.cell? ⟨g, 1, none⟩ = some y1 ∧ v'.cell? ⟨g, 2, none⟩ = some y2 ∧ v'.cell? ⟨g, 3, none⟩ = some y3 ∧ RAt E v' b m c ∧ w.grownBy v' (some b) := by
  have h1 := set_at (k := 3) (u := y3) (set_at (k := 2) (u := y2) (set_at (k := 1) (u := y1) (set_at (k := 0) (u := y0) h)))
  refine ⟨_, rfl, ?_, ?_, ?_, ?_, ?_, grown_set (grown_set (grown_set (grown_set hg hgw) hgw) hgw) hgw⟩
  · simp [World.cell?, h1]
  · simp [World.cell?, h1]
  · simp [World.cell?, h1]
  · simp [World.cell?, h1]
  · unfold RAt at R ⊢
    rw [Below.heap_setCell _ _ _ _ (by exact fun e => hb e.symm), Below.heap_setCell _ _ _ _ (by exact fun e => hb e.symm), Below.heap_setCell _ _ _ _ (by exact fun e => hb e.symm), Below.heap_setCell _ _ _ _ (by exact fun e => hb e.symm)]
    exact R
theorem facts4 {v : World} {g : Nat} {x0 x1 x2 x3 : Value} {t : TypeId} (h : v.heap[g]? = some (.cells #[x0, x1, x2, x3] t (0, 0))) :
    (v.cell? ⟨g, 0, none⟩ = some x0 ∧ v.cell? ⟨g, 1, none⟩ = some x1 ∧ v.cell? ⟨g, 2, none⟩ = some x2 ∧ v.cell? ⟨g, 3, none⟩ = some x3) ∧ ∀ k, v.frozen? ⟨g, k, none⟩ = false := by
  refine ⟨⟨?_, ?_, ?_, ?_⟩, fun k => ?_⟩ <;> simp [World.cell?, World.frozen?, h]

set_option maxRecDepth 100000 in
set_option maxHeartbeats 3200000 in
theorem oprd_any (E : Nat → Addr) (b : Nat) (l : List UInt8) (w : World) (hl : l.length ≤ 1000000000) (h : RAt E w b l 0) (hT : Has E w 1) (hB : Has E w 2) :
    Calls Tryz.prog 266 #[.pointer (some ⟨b, 0, none⟩)] w fun e w' => e = .returned (rdOp l).1.val ∧ RAt E w' b (rdOp l).2.1 (rdOp l).2.2 ∧ w.grownBy w' (some b) := by
  have hbg : b < w.heap.size := h.lt
  have hne : w.heap.size ≠ b := by omega
  have b0 := below_alloc' w (.cells #[.string ⟨#[]⟩, .int .i64 0, .int .i64 0, .string ⟨#[]⟩] 106)
  have R0 := h.below b0
  have HB := Lib.hid hB
  have HT := Lib.hid hT
  have G0 : (w.alloc (.cells #[.string ⟨#[]⟩, .int .i64 0, .int .i64 0, .string ⟨#[]⟩] 106)).heap[w.heap.size]? = some (.cells #[.string ⟨#[]⟩, .int .i64 0, .int .i64 0, .string ⟨#[]⟩] 106 (0, 0)) := heap_alloc_new _ _
  have hz0 : w.heap.size < (w.alloc (.cells #[.string ⟨#[]⟩, .int .i64 0, .int .i64 0, .string ⟨#[]⟩] 106)).heap.size := by simp
  have K0 := grownBy_below (r := some b) b0
  have hBx := HB.out.below b0
  have hTx := HT.out.below b0
  obtain ⟨g, hgd⟩ : ∃ g, g = w.heap.size := ⟨_, rfl⟩
  have hgw : w.heap.size ≤ g := by omega
  have HGW := Lib.hid hgw
  obtain ⟨l1, e1⟩ : ∃ x, rnR l 0 = x := ⟨_, rfl⟩
  obtain ⟨c1, e2⟩ : ∃ x, rnC l 0 = x := ⟨_, rfl⟩
  obtain ⟨k, e3⟩ : ∃ x, rnN l 0 = x := ⟨_, rfl⟩
  have N1 := Lib.hid (fun (w : World) h => rnum_any E b l 0 w hl h)
  rw [e1, e2, e3] at N1
  have HE1 := Lib.hid e1
  have HE2 := Lib.hid e2
  have HE3 := Lib.hid e3
  have HZ := Lib.hid (show POp.val zop = .agg #[.string ⟨#[]⟩, .int .i64 0, .int .i64 0, .string ⟨#[]⟩] by unfold zop POp.val; rw [bs_nil])
  have hl1 := rnR_len l 0
  rw [e1] at hl1
  have hk := rnN_le l 0
  rw [e3] at hk
  have h0 := h
  clear e1 e2 e3 h hB hT
  have HNE := Lib.hid hne
  go_enter Tryz.func266, Tryz.ntmps266
  go_wp2_with fail
  rw [← hgd] at G0 hz0 ⊢
  have hne2 : g ≠ b := by omega
  clear hgd
  generalize w.alloc (.cells #[.string ⟨#[]⟩, .int .i64 0, .int .i64 0, .string ⟨#[]⟩] 106) = w0 at *
  refine (N1.out _ R0 hTx hBx).mono ?_
  rintro e w1 ⟨rfl, R1, g1⟩
  have K1 := grownBy_trans K0 g1
  have G1 := (g1.block g hz0 (fun h => hne2 (Option.some.inj h))).trans G0
  have HTw := Lib.hid (has_grown HT.out h0 K1)
  have HBw := Lib.hid (has_grown HB.out h0 K1)
  clear h0 R0 b0 G0 hz0 K0 g1 hBx hTx N1
  obtain ⟨⟨q0, q1⟩, fzb⟩ := (⟨R1.cs, R1.fz⟩ : (_ ∧ _) ∧ _)
  obtain ⟨⟨d0, d1, d2, d3⟩, fz⟩ := facts4 G1
  have f0 := fz 0
  have f1 := fz 1
  have f2 := fz 2
  have f3 := fz 3
  by_cases hc : c1 = 0
  · subst hc
    rw [ev_zero] at q1
    by_cases hk0 : k = 0
    · subst hk0
      obtain ⟨l2, a1⟩ : ∃ x, rnR l1 0 = x := ⟨_, rfl⟩
      obtain ⟨c2, a2⟩ : ∃ x, rnC l1 0 = x := ⟨_, rfl⟩
      have hrd := rdOp_copy HE2.out HE3.out HE1.out a1 a2
      have P1 := Lib.hid (fun (w : World) h => rnum_any E b l1 0 w (by omega) h)
      have hl2 := rnR_len l1 0
      rw [a1] at hl2
      have P2 := Lib.hid (fun (w : World) h => rnum_any E b l2 c2 w (by omega) h)
      rw [a1, a2] at P1
      generalize rnN l1 0 = x at *
      generalize rnN l2 c2 = y at *
      generalize rnR l2 c2 = l3 at *
      generalize rnC l2 c2 = c3 at *
      have HRD := Lib.hid hrd
      clear a1 a2 hrd fz
      go_wp2_with fail
      refine (P1.out _ R1 HTw.out HBw.out).mono ?_
      rintro e w2 ⟨rfl, R2, g2⟩
      have K2 := grownBy_trans K1 g2
      have G2 := (g2.block g (lt_of_block G1) (fun h => hne2 (Option.some.inj h))).trans G1
      have HTw2 := Lib.hid (has_grown HTw.out R1 g2)
      have HBw2 := Lib.hid (has_grown HBw.out R1 g2)
      clear R1 G1 K1 g2 d0 d1 d2 d3 f0 f1 f2 f3 q0 q1 fzb
      go_wp2_with fail
      refine (P2.out _ R2 HTw2.out HBw2.out).mono ?_
      rintro e w3 ⟨rfl, R3, g3⟩
      have K3 := grownBy_trans K2 g3
      have G3 := (g3.block g (lt_of_block G2) (fun h => hne2 (Option.some.inj h))).trans G2
      clear R2 G2 K2 g3
      obtain ⟨⟨d0, d1, d2, d3⟩, fz⟩ := facts4 G3
      have f0 := fz 0
      have f1 := fz 1
      have f2 := fz 2
      have f3 := fz 3
      obtain ⟨v', hv', r0, r1, r2, r3, R4, K4⟩ := set4 G3 hne2 R3 K3 HGW.out (.string ⟨#[99, 111, 112, 121]⟩) (.int .i64 x) (.int .i64 y) (.string ⟨#[]⟩)
      clear fz G3 R3 K3
      go_wp2_with fail
      rw [← hv']
      clear hv' d0 d1 d2 d3 f0 f1 f2 f3
      (try simp only [Exit.inBlock, Exit.then])
      refine bodyPost_ret (by simp [results, Tryz.results266, go_sem, r0, r1, r2, r3]; try rfl) rfl ?_
      exact ⟨by rw [HRD.out, copyV], by rw [HRD.out]; exact R4, K4⟩
    · have hk0b : ((k : Int) == 0) = false := by rw [beq_eq_false_iff_ne]; omega
      by_cases hk1 : k = 1
      · subst hk1
        have hrd := rdOp_data HE2.out HE3.out HE1.out
        have P1 := Lib.hid (fun (w : World) h => rtext_any E b l1 0 w (by omega) h)
        generalize rtT l1 0 = x at *
        generalize rtR l1 0 = l3 at *
        generalize rtC l1 0 = c3 at *
        have HRD := Lib.hid hrd
        clear hrd fz hk0 hk0b
        go_wp2_with fail
        refine (P1.out _ R1 HTw.out HBw.out).mono ?_
        rintro e w3 ⟨rfl, R3, g3⟩
        have K3 := grownBy_trans K1 g3
        have G3 := (g3.block g (lt_of_block G1) (fun h => hne2 (Option.some.inj h))).trans G1
        clear R1 G1 K1 g3 d0 d1 d2 d3 f0 f1 f2 f3 q0 q1 fzb
        obtain ⟨⟨d0, d1, d2, d3⟩, fz⟩ := facts4 G3
        have f0 := fz 0
        have f1 := fz 1
        have f2 := fz 2
        have f3 := fz 3
        obtain ⟨v', hv', r0, r1, r2, r3, R4, K4⟩ := set4 G3 hne2 R3 K3 HGW.out (.string ⟨#[100, 97, 116, 97]⟩) (.int .i64 0) (.int .i64 0) (.string (bs x))
        clear fz G3 R3 K3
        go_wp2_with fail
        rw [← hv']
        clear hv' d0 d1 d2 d3 f0 f1 f2 f3
        (try simp only [Exit.inBlock, Exit.then])
        refine bodyPost_ret (by simp [results, Tryz.results266, go_sem, r0, r1, r2, r3]; try rfl) rfl ?_
        exact ⟨by rw [HRD.out, dataV], by rw [HRD.out]; exact R4, K4⟩
      · have hk1b : ((k : Int) == 1) = false := by rw [beq_eq_false_iff_ne]; omega
        have HRD := Lib.hid (rdOp_kind HE2.out (by rw [HE3.out]; exact hk0) (by rw [HE3.out]; exact hk1))
        rw [HE1.out] at HRD
        have t1 : w1.cell? ⟨1, 0, none⟩ = some (errv (E 1)) := HTw.out
        unfold errv at t1
        have fb1 := fzb 1
        have R2 := R1.set1 1 _ (ev_is E (c := 1) (by decide)).symm
        unfold errv at R2
        have K2 := grownBy_trans K1 (grownBy_set w1 b 1 (.iface 345 (.pointer (some (E 1)))))
        have G2 : (w1.setCell ⟨b, 1, none⟩ (.iface 345 (.pointer (some (E 1))))).heap[g]? = some (.cells #[.string ⟨#[]⟩, .int .i64 0, .int .i64 0, .string ⟨#[]⟩] 106 (0, 0)) := (Below.heap_setCell _ _ _ _ (by exact hne2)).trans G1
        obtain ⟨w2, hw2⟩ : ∃ w2, w2 = w1.setCell ⟨b, 1, none⟩ (.iface 345 (.pointer (some (E 1)))) := ⟨_, rfl⟩
        rw [← hw2] at R2 K2 G2
        obtain ⟨⟨d0', d1', d2', d3'⟩, fz'⟩ := facts4 G2
        obtain ⟨v', hv', r0, r1, r2, r3, R4, K4⟩ := set4 G2 hne2 R2 K2 HGW.out (.string ⟨#[]⟩) (.int .i64 0) (.int .i64 0) (.string ⟨#[]⟩)
        have f0' := fz' 0
        have f1' := fz' 1
        have f2' := fz' 2
        have f3' := fz' 3
        rw [hw2] at d0' d1' d2' d3' f0' f1' f2' f3'
        rw [hw2] at hv'
        clear fz fz' hk0 hk1 R1 K1 G1 R2 K2 G2 hw2
        go_wp2_with fail
        rw [← hv']
        (try simp only [Exit.inBlock, Exit.then])
        refine bodyPost_ret (by simp [results, Tryz.results266, go_sem, r0, r1, r2, r3]; try rfl) rfl ?_
        exact ⟨by rw [HRD.out, HZ.out], by rw [HRD.out]; exact R4, K4⟩
  · have HRD := Lib.hid (rdOp_err (l := l) (by rw [HE2.out]; exact hc))
    rw [HE1.out, HE2.out] at HRD
    rw [ev_pos E hc] at q1
    obtain ⟨v', hv', r0, r1, r2, r3, R4, K4⟩ := set4 G1 hne2 R1 K1 HGW.out (.string ⟨#[]⟩) (.int .i64 0) (.int .i64 0) (.string ⟨#[]⟩)
    clear fz hc R1 K1 G1
    go_wp2_with fail
    rw [← hv']
    (try simp only [Exit.inBlock, Exit.then])
    refine bodyPost_ret (by simp [results, Tryz.results266, go_sem, r0, r1, r2, r3]; try rfl) rfl ?_
    exact ⟨by rw [HRD.out, HZ.out], by rw [HRD.out]; exact R4, K4⟩
end Go.Proofs.YtppkeophochgiaaGreatDoor
/- Contract of delta.Read. -/
namespace Go.Proofs.YtppkeophochgiaaGreatDoor
open Go.RowKit
set_option linter.unusedVariables false

def roL : Nat → List UInt8 → Nat → List POp → List POp × List UInt8 × Nat
  | 0, l, c, out => (out, l, c)
  | f + 1, l, c, out => if c = 0 then roL f (rdOp l).2.1 (rdOp l).2.2 (out ++ [(rdOp l).1]) else (out, l, c)
theorem roL_end (l : List UInt8) (c : Nat) (out : List POp) : roL 0 l c out = (out, l, c) := rfl
theorem roL_err (f : Nat) (l : List UInt8) {c : Nat} (h : c ≠ 0) (out : List POp) : roL f l c out = (out, l, c) := by
  cases f with
  | zero => rfl
  | succ f => simp [roL, h]
theorem roL_step {f : Nat} (hf : 0 < f) (l : List UInt8) (out : List POp) : roL f l 0 out = roL (f - 1) (rdOp l).2.1 (rdOp l).2.2 (out ++ [(rdOp l).1]) := by
  obtain ⟨g, rfl⟩ : ∃ g, f = g + 1 := ⟨f - 1, by omega⟩
  simp [roL]
def ro0 (L : List UInt8) : List POp × List UInt8 × Nat := roL (rnN L 0) (rnR L 0) (rnC L 0) []
/-- ops that are read, an error's number -/
def readO (L : List UInt8) : List POp × Nat :=
  if 20000 < L.length then ([], 2)
  else if rEnd (ro0 L).2.1 (ro0 L).2.2 ≠ 0 then ([], rEnd (ro0 L).2.1 (ro0 L).2.2)
  else if (chkOps (ro0 L).1).1 ≠ 0 then ([], (chkOps (ro0 L).1).1) else ((ro0 L).1, 0)
theorem readO_long {L : List UInt8} (h : 20000 < L.length) : readO L = ([], 2) := by simp [readO, h]
theorem readO_end {L l : List UInt8} {c : Nat} {out : List POp} (h0 : ¬ 20000 < L.length) (h : ro0 L = (out, l, c)) (h1 : rEnd l c ≠ 0) : readO L = ([], rEnd l c) := by unfold readO; rw [if_neg h0, h]; simp [h1]
theorem readO_bad {L l : List UInt8} {c : Nat} {out : List POp} (h0 : ¬ 20000 < L.length) (h : ro0 L = (out, l, c)) (h1 : rEnd l c = 0) (h2 : (chkOps out).1 ≠ 0) : readO L = ([], (chkOps out).1) := by unfold readO; rw [if_neg h0, h]; simp [h1, h2]
theorem readO_ok {L l : List UInt8} {c : Nat} {out : List POp} (h0 : ¬ 20000 < L.length) (h : ro0 L = (out, l, c)) (h1 : rEnd l c = 0) (h2 : (chkOps out).1 = 0) : readO L = (out, 0) := by unfold readO; rw [if_neg h0, h]; simp [h1, h2]
theorem ro0_is {L l1 : List UInt8} {c1 m : Nat} (h0 : rnN L 0 = m) (h1 : rnR L 0 = l1) (h2 : rnC L 0 = c1) : ro0 L = roL m l1 c1 [] := by subst h0 h1 h2; rfl
attribute [irreducible] roL ro0 readO
set_option maxRecDepth 100000 in
set_option maxHeartbeats 3200000 in
theorem dread_any (E : Nat → Addr) (s : ByteArray) (w : World) (hs : s.size ≤ 1000000000) (hT : Has E w 1) (hB : Has E w 2) (h3 : Has E w 3) (h4 : Has E w 4) :
    Calls Tryz.prog 254 #[.string s] w fun e w' => ∃ v, e = .returned (.tuple #[v, ev E (readO s.data.toList).2]) ∧
      w'.ownsRow w.heap.size 106 4 v (readO s.data.toList).1.length (ocells (readO s.data.toList).1) ∧ Below w.heap.size w w' := by
  obtain ⟨i0, hi, hz0, hz1, hz2⟩ := info_parts info_op
  obtain ⟨L, hL⟩ : ∃ L, L = s.data.toList := ⟨_, rfl⟩
  have hLl : L.length = s.size := by rw [hL]; simp
  rw [← hL]
  have hsb : s = bs L := by rw [hL, bs_of]
  have hLb : L.length ≤ 1000000000 := by omega
  clear hLl hL hs
  subst hsb
  have HB := Lib.hid hB
  have HT := Lib.hid hT
  have H3 := Lib.hid h3
  have H4 := Lib.hid h4
  by_cases hlong : 20000 < L.length
  · have hlI : (20000 : Int) < L.length := by omega
    have HR := Lib.hid (readO_long hlong)
    have c2 : w.cell? ⟨0, 0, none⟩ = some (errv (E 2)) := hB
    unfold errv at c2
    clear hT hB h3 h4
    go_enter Tryz.func254, Tryz.ntmps254
    go_wp2_with fail
    go_quiet (fail)
    go_wp2_with fail
    go_ret2
    refine ⟨.slice none 0 0, by rw [HR.out, ev_pos E (by decide)]; rfl, ?_, Drew.below (Drew.drewN _ _) _⟩
    rw [HR.out]
    simp only []
    rw [ocells_nil]
    exact World.ownsRow_nil _ _ _ _
  have hlI : ¬ (20000 : Int) < L.length := by omega
  have HLONG := Lib.hid hlong
  obtain ⟨l1, e1⟩ : ∃ x, rnR L 0 = x := ⟨_, rfl⟩
  obtain ⟨c1, e2⟩ : ∃ x, rnC L 0 = x := ⟨_, rfl⟩
  obtain ⟨many, e0⟩ : ∃ x, rnN L 0 = x := ⟨_, rfl⟩
  have hr0 := ro0_is e0 e1 e2
  have hl1 := rnR_len L 0
  rw [e1] at hl1
  have N1 := Lib.hid (fun b (w : World) h => rnum_any E b L 0 w hLb h)
  rw [e0, e1, e2] at N1
  have HR0 := Lib.hid hr0
  have hml := rnN_le L 0
  rw [e0] at hml
  have HEZ := Lib.hid (ev_zero E)
  clear e0 e1 e2 hr0 hB hT h3 h4 hlong
  have R0 : RAt E (w.alloc (.cells #[.string (bs L), .nilIface] 304)) w.heap.size L 0 := by unfold RAt; rw [ev_zero]; exact heap_alloc_new _ _
  have b0 := below_alloc' w (.cells #[.string (bs L), .nilIface] 304)
  go_enter Tryz.func254, Tryz.ntmps254
  go_wp2_with fail
  refine (N1.out _ _ R0 (HT.out.below b0) (HB.out.below b0)).mono ?_
  rintro e w1 ⟨rfl, R1, g1⟩
  have b1 := b0.grown g1 b0.size (fun k hk => by cases hk; exact Nat.le_refl _)
  clear R0 b0 g1
  go_wp2_with fail
  go_loopw [6, 7] (fun o i wr => ∃ (k : Nat) (out : List POp) (l : List UInt8) (c : Nat), i = .int .i64 k ∧ k ≤ many ∧ out.length = k ∧ out.length ≤ L.length + 1 ∧ (c = 0 → out.length + l.length ≤ L.length) ∧ l.length ≤ L.length ∧
      ro0 L = roL (many - k) l c out ∧ RAt E wr w.heap.size l c ∧ wr.ownsRow (w.heap.size + 1) 106 4 o k (ocells out) ∧ Below w.heap.size w wr) (fun _ i _ => many - (intOf i).toNat)
  case atStart => exact ⟨0, [], l1, c1, rfl, by omega, rfl, by simp, fun _ => by simp; omega, by omega, HR0.out, R1, by rw [ocells_nil]; exact World.ownsRow_nil _ _ _ _, b1⟩
  case round =>
    clear R1 b1
    obtain ⟨k, out, l, c, rfl, hk, hok, ho1, ho2, hll, hrd, R, hown, bel⟩ := hrel
    have HRD := Lib.hid hrd
    have HOK := Lib.hid hok
    have HO2 := Lib.hid ho2
    obtain ⟨r0, r1⟩ := R.cs
    clear hrd hok ho2
    by_cases hgo : k < many ∧ c = 0
    · obtain ⟨hlt, rfl⟩ := hgo
      have hltI : (k : Int) < many := by omega
      rw [ev_zero] at r1
      have hstep := HRD.out.trans (roL_step (by omega) l out)
      have hshort := rdOp_len l
      have hle := rdOp_le l
      have P1 := Lib.hid (fun b (w : World) h => oprd_any E b l w (by omega) h)
      generalize rdOp l = rd at *
      obtain ⟨o1, m, d⟩ := rd
      simp only [] at hstep hshort hle P1
      have HSTEP := Lib.hid hstep
      have HSH := Lib.hid hshort
      have KK := Lib.hid (show k + 1 ≤ many ∧ many - (k + 1) = many - k - 1 by omega)
      have HO3 := Lib.hid (HO2.out rfl)
      clear hstep hshort
      have hsz0 := R.lt
      unfold POp.val at P1
      go_wp2_with fail
      refine (P1.out _ _ R (HT.out.below bel) (HB.out.below bel)).mono ?_
      rintro e v3 ⟨rfl, R3, g3⟩
      have bel3 := bel.grown g3 bel.size (fun k hk => by cases hk; exact Nat.le_refl _)
      have hown3 := owns_other' hown (Nat.lt_succ_self _) g3
      clear R bel g3 hown r0 r1
      have hsz3 := R3.lt
      have OWN := Lib.hid hown3
      have RR := Lib.hid R3
      have HSZ3 := Lib.hid hsz3
      have HM1 : Hid (k + 1 ≤ maxLen) := by show _ ≤ _; unfold maxLen; omega
      have HM2 : Hid ((k + 1) * 48 ≤ 140737488355328) := by show _ ≤ _; have := HOK.out; omega
      have HM3 : Hid (w.heap.size + 1 ≤ (v3.alloc (.cells #[.string (bs o1.kind), .int .i64 o1.a, .int .i64 o1.n, .string (bs o1.data)] 106)).heap.size) := by show _ ≤ _; have := bel3.size; have := HSZ3.out; simp; omega
      have NEWC : Hid (∀ u ∈ [Value.string (bs o1.kind), .int .i64 o1.a, .int .i64 o1.n, .string (bs o1.data)], u.oneCell' = true) := fun u hu => ocells_cell [o1] u (by rw [ocells_one]; exact hu)
      go_wp2_with (at_builtin; refine wpList_append_own _ rfl _ _ 100 rfl (w.heap.size + 1) 106 i0 _ 4 48 Tryz.underlying100 hi hz0 hz1 hz2 rfl (by decide) _ _ _ rfl (OWN.out.alloc _) ⟨v3.heap.size, 0, none⟩ 1 1 [.string (bs o1.kind), .int .i64 o1.a, .int .i64 o1.n, .string (bs o1.data)] rfl rfl (four_news (heap_alloc_new _ _)) (fun u hu => NEWC.out u hu) HM1.out HM2.out HM3.out ?_; intro v' v5 hown' hgrow _)
      have bel5 := (bel3.alloc bel3.size (.cells #[.string (bs o1.kind), .int .i64 o1.a, .int .i64 o1.n, .string (bs o1.data)] 106)).grown hgrow (by have := bel3.size; simp; omega) (fun j hj => by have := (OWN.out.lt j hj).1; omega)
      have hne : some w.heap.size ≠ Value.ownBlock u6 := fun e => by have := (OWN.out.lt _ e.symm).1; omega
      have R5 := (RAt.below RR.out (below_alloc' _ (.cells #[.string (bs o1.kind), .int .i64 o1.a, .int .i64 o1.n, .string (bs o1.data)] 106))).grown hgrow hne
      have hcells : ocells (out ++ [o1]) = ocells out ++ [.string (bs o1.kind), .int .i64 o1.a, .int .i64 o1.n, .string (bs o1.data)] := by
        rw [ocells_append, ocells_one]; simp only [POp.vals]
      go_roundw
      case rel => exact ⟨k + 1, out ++ [o1], m, d, by go_num, KK.out.1, by simp [HOK.out], by have := HO3.out; simp; omega, (fun h => by have := HSH.out h; have := HO3.out; simp; omega), by omega, by rw [KK.out.2]; exact HSTEP.out, R5, by rw [hcells]; exact hown', bel5⟩
      case measure => simp [intOf]; omega
    · have hEX : ro0 L = (out, l, c) := by
        rw [HRD.out]
        by_cases hc : c = 0
        · have : many - k = 0 := by omega
          rw [this, roL_end]
        · exact roL_err _ _ hc _
      have HEX := Lib.hid hEX
      clear hEX
      have WAYS : ¬ (k : Int) < many ∨ (k : Int) < many ∧ c ≠ 0 := by omega
      have EN := Lib.hid (rend_any E w.heap.size l c wr R (HT.out.below bel))
      clear hgo
      obtain ⟨A, cap, rfl⟩ := owns_slice hown
      have WAYS2 : ¬ (k : Int) < many ∨ (k : Int) < many ∧ ∃ x, ev E c = .iface 345 x := by
        rcases WAYS with h | ⟨h, hc⟩
        · exact .inl h
        · exact .inr ⟨h, _, ev_pos E hc⟩
      clear WAYS
      rcases WAYS2 with h | ⟨h, x, hx⟩
      all_goals
        try rw [hx] at r1
        try clear hx
        go_wp2_with fail
        refine EN.out.mono ?_
        rintro e v4 ⟨rfl, R4, g4⟩
        have bel4 := bel.grown g4 bel.size (fun k hk => by cases hk; exact Nat.le_refl _)
        have hown4 := owns_other' hown (Nat.lt_succ_self _) g4
        clear bel g4 hown R R4 r0 r1
        by_cases he : rEnd l c = 0
        · have CK := dcheck_any E A k cap out v4 (SliceIs.ownedK hown4) (HB.out.below bel4) (H3.out.below bel4) (H4.out.below bel4)
          have HCK := Lib.hid CK
          clear CK
          by_cases hcode : (chkOps out).1 = 0
          · have HR := Lib.hid (readO_ok HLONG.out HEX.out he hcode)
            have HC := Lib.hid hcode
            rw [he, ev_zero]
            clear he hcode
            go_wp2_with fail
            refine HCK.out.mono ?_
            rintro e v5 ⟨v, rfl, fe, b5⟩
            rw [HC.out] at fe
            rw [fe.zero]
            clear fe
            go_wp2_with fail
            go_ret2
            refine ⟨_, by rw [HR.out, ev_zero]; rfl, ?_, below_trans' bel4 b5⟩
            rw [HR.out]
            simp only []
            rw [HOK.out]
            exact owns_mono (owns_below hown4 b5) (by omega)
          · have HR := Lib.hid (readO_bad HLONG.out HEX.out he hcode)
            have HC := Lib.hid hcode
            rw [he, ev_zero]
            clear he hcode
            go_wp2_with fail
            refine HCK.out.mono ?_
            rintro e v5 ⟨v, rfl, fe, b5⟩
            have BA := Lib.hid (bare_any E v _ _ v5 fe)
            obtain ⟨t, p, hv⟩ := fe.some HC.out
            rw [hv] at BA ⊢
            clear fe hv
            go_wp2_with fail
            refine BA.out.mono ?_
            rintro e v6 ⟨rfl, rfl⟩
            go_wp2_with fail
            go_ret2
            refine ⟨.slice none 0 0, by rw [HR.out]; rfl, ?_, below_trans' bel4 b5⟩
            rw [HR.out]
            simp only []
            rw [ocells_nil]
            exact World.ownsRow_nil _ _ _ _
        · have HR := Lib.hid (readO_end HLONG.out HEX.out he)
          have hev := ev_is E he
          rw [hev]
          have HEV := Lib.hid hev
          unfold errv at HEV ⊢
          clear hev he
          go_wp2_with fail
          go_ret2
          refine ⟨.slice none 0 0, by rw [HR.out, HEV.out]; rfl, ?_, bel4⟩
          rw [HR.out]
          simp only []
          rw [ocells_nil]
          exact World.ownsRow_nil _ _ _ _
end Go.Proofs.YtppkeophochgiaaGreatDoor
/- Slices of structs that came in: what is alike for all. -/
namespace Go.Proofs.YtppkeophochgiaaGreatDoor
open Go.RowKit Go.ChangeShapes Go.WideShapes Go.Deep

section
variable {H : Type} {enc : TypeId × Value → H} {P : Program} {w : World} {base : Nat} {spare : Nat → Bool} {held : Bool}
end

end Go.Proofs.YtppkeophochgiaaGreatDoor
