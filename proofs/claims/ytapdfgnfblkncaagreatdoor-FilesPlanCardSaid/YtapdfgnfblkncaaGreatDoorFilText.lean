/- Contract of files.Text. -/
import Derived.Test.YtapdfgnfblkncaaGreatDoorWText
import Derived.Test.YtapdfgnfblkncaaGreatDoorFilLines
namespace Go.Proofs.YtapdfgnfblkncaaGreatDoor
open Go.RowKit
set_option linter.unusedVariables false

def lnText (l : List PL) : List UInt8 := l.flatMap fun x => (num x.n.length ++ x.n) ++ num x.N.toNat ++ num x.S
theorem lnText_nil : lnText [] = [] := rfl
theorem lnText_append (a b : List PL) : lnText (a ++ b) = lnText a ++ lnText b := by simp [lnText]
theorem lnText_one (x : PL) : lnText [x] = (num x.n.length ++ x.n) ++ num x.N.toNat ++ num x.S := by simp [lnText]
theorem lnText_cons (x : PL) (l : List PL) : lnText (x :: l) = (num x.n.length ++ x.n) ++ num x.N.toNat ++ num x.S ++ lnText l := by simp [lnText]
theorem lnText_len (l : List PL) (h : ∀ x ∈ l, x.n.length ≤ 12) : (lnText l).length ≤ 40 * l.length := by
  induction l with
  | nil => simp [lnText]
  | cons x l ih =>
    rw [lnText_cons]
    have := num_len x.n.length
    have := num_len x.N.toNat
    have := num_len x.S
    have := h x (by simp)
    have := ih (fun y hy => h y (List.mem_cons_of_mem _ hy))
    simp only [List.length_append, List.length_cons]
    omega
def flText (l : List PL) : List UInt8 := num l.length ++ lnText l
theorem flText_is (l : List PL) : flText l = num l.length ++ lnText l := rfl
attribute [irreducible] lnText flText

set_option maxRecDepth 100000 in
set_option maxHeartbeats 6400000 in
theorem fltext_yes (E : Nat → Addr) (l : List PL) (v : Value) (w : World) (hl : SliceIs w v 3 (lcells l)) (hS : ∀ b ∈ l, b.S < 4294967296) (hB : Has E w 2) (hN : Has E w 5) (hF : Has E w 8) (hO : Has E w 9)
    (hok : LWF l) :
    Calls Tryz.prog 7 #[v] w fun e w' => e = .returned (.tuple #[.string (bs (flText l)), .nilIface]) ∧ Below w.heap.size w w' := by
  have hfew := hok.few
  have HEA := Lib.hid (fun (x : PL) (hx : x ∈ l) => (show nameB x.n = true ∧ 0 ≤ x.N ∧ x.N ≤ 4000 ∧ x.n.length ≤ 12 from have h := hok.each x hx; ⟨h.1, h.2.1, h.2.2, ((nameB_iff _).1 h.1).2.1⟩))
  have CH := fllines_any E l v w hl (fun x hx => by have := (HEA.out x hx).2.2.2; unfold maxLen; omega) (by omega) hB hN hF hO
  rw [(lnFault_wf l).2 hok] at CH
  obtain ⟨s0, n0, c0, rfl, hn, h1, h2, hg⟩ := hl.get
  rw [lcells_len] at hn
  obtain rfl : n0 = l.length := by omega
  unfold maxLen at h2
  have HLS := Lib.hid hl
  have HB := Lib.hid hB
  have HCH := Lib.hid CH
  have HSS := Lib.hid hS
  have HST := Lib.hid (flText_is l)
  have hfin := doneL_zero
  have HFIN := Lib.hid hfin
  have HEZ := Lib.hid (ev_zero E)
  clear hfin hl hB hN hF hO CH hS hok hg
  go_enter Tryz.func7, Tryz.ntmps7
  go_wp2_with fail
  refine HCH.out.mono ?_
  rintro e w1 ⟨v, rfl, fe, b1⟩
  rw [fe.zero]
  clear fe
  go_wp2_with fail
  have W0 := WAt.new E w1
  have bA := b1.alloc b1.size (.cells #[.slice none 0 0, .nilIface] 70)
  have hb : w.heap.size ≤ w1.heap.size := b1.size
  generalize w1.alloc (.cells #[.slice none 0 0, .nilIface] 70) = w2 at W0 bA ⊢
  generalize w1.heap.size = b at W0 hb ⊢
  clear b1
  refine (wnum_ok E b _ _ _ (by simp) W0 (HB.out.below bA) (by omega) (by omega)).mono ?_
  rintro e w4 ⟨rfl, W4, K4⟩
  have b4 := K4.old bA hb W0.lt
  clear K4 bA W0
  go_wp2_with fail
  go_loopw [21, 7] (fun i _ wr => ∃ k : Nat, i = .int .i64 k ∧ k ≤ l.length ∧ WAt E wr b (num l.length ++ lnText (l.take k)) 0 ∧ Below w.heap.size w wr) (fun i _ _ => l.length - (intOf i).toNat)
  case atStart => exact ⟨0, rfl, by omega, by simpa [lnText_nil] using W4, b4⟩
  case round =>
    clear W4 b4
    obtain ⟨k, rfl, hk, W, bel⟩ := hrel
    by_cases hlt : k < l.length
    · have hltI : (k : Int) < l.length := by omega
      obtain ⟨s0', n0', c0', e1, _, _, _, g1⟩ := (HLS.out.below bel).get
      cases e1
      obtain ⟨g2, g3, g4⟩ := lcells_get l k hlt
      obtain ⟨ad, rfl, d0⟩ := g1 _ _ g2
      obtain ⟨a', e', d1⟩ := g1 _ _ g3
      cases e'
      obtain ⟨a', e', d2⟩ := g1 _ _ g4
      cases e'
      clear g1 g2 g3 g4
      have KK := Lib.hid (show k + 1 ≤ l.length by omega)
      have x1 : (0 : Int) ≤ k := by omega
      have x2 : (k : Int).toNat = k := by omega
      have hea := HEA.out _ (List.getElem_mem hlt)
      have hs := HSS.out _ (List.getElem_mem hlt)
      have htk := Lib.hid (List.take_succ_eq_append_getElem hlt)
      have hlen := lnText_len (l.take k) (fun x hx => (HEA.out x (List.mem_of_mem_take hx)).2.2.2)
      have hlen2 : (l.take k).length ≤ 4000 := by simp; omega
      have hn2 := num_len l.length
      generalize l[k]'hlt = bk at d0 d1 d2 hea hs htk
      obtain ⟨bn, bN, bS⟩ := bk
      have d1 := cell_at d1
      have d2 := cell_at d2
      simp only [] at d0 d1 d2 hea hs
      obtain ⟨y1, y2, y3, y4⟩ := hea
      have hn3 := num_len bn.length
      have hn4 := num_len bN.toNat
      have hsz : (bs bn).size = bn.length := bs_size _
      have hgb : b < wr.heap.size := W.lt
      have W1 := W.below (below_alloc' wr (.cells #[.string (bs bn), .int .i64 bN, .int .u32 bS] 60))
      have bel1 := bel.alloc bel.size (.cells #[.string (bs bn), .int .i64 bN, .int .u32 bS] 60)
      have G1 : (wr.alloc (.cells #[.string (bs bn), .int .i64 bN, .int .u32 bS] 60)).heap[wr.heap.size]? = some (.cells #[.string (bs bn), .int .i64 bN, .int .u32 bS] 60 (0, 0)) := heap_alloc_new _ _
      go_wp2_with fail
      generalize wr.alloc (.cells #[.string (bs bn), .int .i64 bN, .int .u32 bS] 60) = v1 at W1 bel1 G1 ⊢
      generalize wr.heap.size = g at G1 hgb ⊢
      clear W bel
      refine (wtext_ok E b _ _ _ (by simp only [List.length_append]; omega) W1 (HB.out.below bel1) (by omega)).mono ?_
      rintro e v2 ⟨rfl, W2, K2⟩
      rw [bs_size, bs_list] at W2
      have bel2 := K2.old bel1 hb W1.lt
      have G2 := K2.obj G1 (by omega) (by decide)
      clear K2 bel1 W1 G1
      have f1 : v2.cell? ⟨g, 1, none⟩ = some (.int .i64 bN) := by simp [World.cell?, G2]
      go_wp2_with fail
      refine (wnum_ok E b _ _ _ (by simp only [List.length_append]; omega) W2 (HB.out.below bel2) (by omega) (by omega)).mono ?_
      rintro e v3 ⟨rfl, W3, K3⟩
      have bel3 := K3.old bel2 hb W2.lt
      have G3 := K3.obj G2 (by omega) (by decide)
      clear K3 bel2 W2 G2
      have f2 : v3.cell? ⟨g, 2, none⟩ = some (.int .u32 bS) := by simp [World.cell?, G3]
      go_wp2_with fail
      refine (wnum_ok E b _ _ _ (by simp only [List.length_append]; omega) W3 (HB.out.below bel3) (by omega) (by omega)).mono ?_
      rintro e v4 ⟨rfl, W4, K4⟩
      have bel4 := K4.old bel3 hb W3.lt
      clear K4 bel3 W3 G3
      go_wp2_with fail
      go_roundw
      case rel => exact ⟨k + 1, by go_num, KK.out, by rw [htk.out, lnText_append, lnText_one]; simpa [List.append_assoc] using W4, bel4⟩
      case measure => simp [intOf]; omega
    · have hltI : ¬ (k : Int) < l.length := by omega
      have htk : l.take k = l := List.take_of_length_le (by omega)
      rw [htk, ← HST.out] at W
      have D := wdone_any E b _ 0 wr (fun _ => by rw [HST.out]; have := num_pos l.length; simp; omega) W
      rw [HFIN.out, HEZ.out] at D
      have HD := Lib.hid D
      clear D htk W
      go_wp2_with fail
      refine HD.out.mono ?_
      rintro e w9 ⟨rfl, b9⟩
      go_wp2_with fail
      go_ret2
      exact ⟨rfl, below_trans' bel (b9.below _)⟩

set_option maxRecDepth 100000 in
set_option maxHeartbeats 1600000 in
theorem fltext_no (E : Nat → Addr) (l : List PL) (v : Value) (w : World) (hl : SliceIs w v 3 (lcells l)) (hd : ∀ x ∈ l, x.n.length ≤ maxLen) (hlen : l.length ≤ 1000000000) (hB : Has E w 2) (hN : Has E w 5) (hF : Has E w 8) (hO : Has E w 9)
    (hok : (lnFault l).1 ≠ 0) :
    Calls Tryz.prog 7 #[v] w fun e w' => ∃ r, e = .returned (.tuple #[.string (bs []), r]) ∧ FErr E w' r (lnFault l).1 (lnFault l).2 ∧ Below w.heap.size w w' := by
  have HCH := Lib.hid (fllines_any E l v w hl hd hlen hB hN hF hO)
  have HOK := Lib.hid hok
  clear hl hB hN hF hO hok
  go_enter Tryz.func7, Tryz.ntmps7
  go_wp2_with fail
  refine HCH.out.mono ?_
  rintro e w1 ⟨r, rfl, fe, b1⟩
  have FE := Lib.hid fe
  obtain ⟨t, p, rfl⟩ := fe.some HOK.out
  have HBB := Lib.hid b1
  clear fe b1 HCH
  go_wp2_with fail
  go_ret2
  exact ⟨_, by rw [bs_nil]; rfl, FE.out, HBB.out⟩
end Go.Proofs.YtapdfgnfblkncaaGreatDoor
