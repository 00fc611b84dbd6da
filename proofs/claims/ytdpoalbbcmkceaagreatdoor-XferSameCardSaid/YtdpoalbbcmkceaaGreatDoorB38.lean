/- Texts of one proof, one behind the other: FilText, FilRead, FilBackP. -/
import Derived.Test.YtdpoalbbcmkceaaGreatDoorB10
import Derived.Test.YtdpoalbbcmkceaaGreatDoorB37
/- Contract of files.Text. -/
namespace Go.Proofs.YtdpoalbbcmkceaaGreatDoor
open Go.RowKit
set_option linter.unusedVariables false

def lnText (l : List PL) : List UInt8 := l.flatMap fun x => (num x.n.length ++ x.n) ++ num x.N.toNat ++ num x.S
theorem lnText_nil : lnText [] = [] := rfl
theorem lnText_append (a b : List PL) : lnText (a ++ b) = lnText a ++ lnText b := by simp [lnText]
theorem lnText_one (x : PL) : lnText [x] = (num x.n.length ++ x.n) ++ num x.N.toNat ++ num x.S := by simp [lnText]
theorem lnText_cons (x : PL) (l : List PL) : lnText (x :: l) = (num x.n.length ++ x.n) ++ num x.N.toNat ++ num x.S ++ lnText l := by simp [lnText]
theorem lnText_len (l : List PL) (h : ∀ x ∈ l, x.n.length ≤ 12) : (lnText l).length ≤ 40 * l.length := by
  induction l with
  | nil => simp [lnText]
  | cons x l ih =>
    rw [lnText_cons]
    have := num_len x.n.length
    have := num_len x.N.toNat
    have := num_len x.S
    have := h x (by simp)
    have := ih (fun y hy => h y (List.mem_cons_of_mem _ hy))
    simp only [List.length_append, List.length_cons]
    omega
def flText (l : List PL) : List UInt8 := num l.length ++ lnText l
theorem flText_is (l : List PL) : flText l = num l.length ++ lnText l := rfl
attribute [irreducible] lnText flText

set_option maxRecDepth 100000 in
set_option maxHeartbeats 6400000 in
theorem fltext_yes (E : Nat → Addr) (l : List PL) (v : Value) (w : World) (hl : SliceIs w v 3 (lcells l)) (hS : ∀ b ∈ l, b.S < 4294967296) (hB : Has E w 2) (hN : Has E w 5) (hF : Has E w 8) (hO : Has E w 9)
    (hok : LWF l) :
    Calls Tryz.prog 62 #[v] w fun e w' => e = .returned (.tuple #[.string (bs (flText l)), .nilIface]) ∧ Below w.heap.size w w' := by
  have hfew := hok.few
  have HEA := Lib.hid (fun (x : PL) (hx : x ∈ l) => (show nameB x.n = true ∧ 0 ≤ x.N ∧ x.N ≤ 4000 ∧ x.n.length ≤ 12 from have h := hok.each x hx; ⟨h.1, h.2.1, h.2.2, ((nameB_iff _).1 h.1).2.1⟩))
  have CH := fllines_any E l v w hl (fun x hx => by have := (HEA.out x hx).2.2.2; unfold maxLen; omega) (by omega) hB hN hF hO
  rw [(lnFault_wf l).2 hok] at CH
  obtain ⟨s0, n0, c0, rfl, hn, h1, h2, hg⟩ := hl.get
  rw [lcells_len] at hn
  obtain rfl : n0 = l.length := by omega
  unfold maxLen at h2
  have HLS := Lib.hid hl
  have HB := Lib.hid hB
  have HCH := Lib.hid CH
  have HSS := Lib.hid hS
  have HST := Lib.hid (flText_is l)
  have hfin := doneL_zero
  have HFIN := Lib.hid hfin
  have HEZ := Lib.hid (ev_zero E)
  clear hfin hl hB hN hF hO CH hS hok hg
  go_enter Tryz.func62, Tryz.ntmps62
  go_wp2_with fail
  refine HCH.out.mono ?_
  rintro e w1 ⟨v, rfl, fe, b1⟩
  rw [fe.zero]
  clear fe
  go_wp2_with fail
  have W0 := WAt.new E w1
  have bA := b1.alloc b1.size (.cells #[.slice none 0 0, .nilIface] 128)
  have hb : w.heap.size ≤ w1.heap.size := b1.size
  generalize w1.alloc (.cells #[.slice none 0 0, .nilIface] 128) = w2 at W0 bA ⊢
  generalize w1.heap.size = b at W0 hb ⊢
  clear b1
  refine (wnum_ok E b _ _ _ (by simp) W0 (HB.out.below bA) (by omega) (by omega)).mono ?_
  rintro e w4 ⟨rfl, W4, K4⟩
  have b4 := K4.old bA hb W0.lt
  clear K4 bA W0
  go_wp2_with fail
  go_loopw [21, 7] (fun i _ wr => ∃ k : Nat, i = .int .i64 k ∧ k ≤ l.length ∧ WAt E wr b (num l.length ++ lnText (l.take k)) 0 ∧ Below w.heap.size w wr) (fun i _ _ => l.length - (intOf i).toNat)
  case atStart => exact ⟨0, rfl, by omega, by simpa [lnText_nil] using W4, b4⟩
  case round =>
    clear W4 b4
    obtain ⟨k, rfl, hk, W, bel⟩ := hrel
    by_cases hlt : k < l.length
    · have hltI : (k : Int) < l.length := by omega
      obtain ⟨s0', n0', c0', e1, _, _, _, g1⟩ := (HLS.out.below bel).get
      cases e1
      obtain ⟨g2, g3, g4⟩ := lcells_get l k hlt
      obtain ⟨ad, rfl, d0⟩ := g1 _ _ g2
      obtain ⟨a', e', d1⟩ := g1 _ _ g3
      cases e'
      obtain ⟨a', e', d2⟩ := g1 _ _ g4
      cases e'
      clear g1 g2 g3 g4
      have KK := Lib.hid (show k + 1 ≤ l.length by omega)
      have x1 : (0 : Int) ≤ k := by omega
      have x2 : (k : Int).toNat = k := by omega
      have hea := HEA.out _ (List.getElem_mem hlt)
      have hs := HSS.out _ (List.getElem_mem hlt)
      have htk := Lib.hid (List.take_succ_eq_append_getElem hlt)
      have hlen := lnText_len (l.take k) (fun x hx => (HEA.out x (List.mem_of_mem_take hx)).2.2.2)
      have hlen2 : (l.take k).length ≤ 4000 := by simp; omega
      have hn2 := num_len l.length
      generalize l[k]'hlt = bk at d0 d1 d2 hea hs htk
      obtain ⟨bn, bN, bS⟩ := bk
      have d1 := cell_at d1
      have d2 := cell_at d2
      simp only [] at d0 d1 d2 hea hs
      obtain ⟨y1, y2, y3, y4⟩ := hea
      have hn3 := num_len bn.length
      have hn4 := num_len bN.toNat
      have hsz : (bs bn).size = bn.length := bs_size _
      have hgb : b < wr.heap.size := W.lt
      have W1 := W.below (below_alloc' wr (.cells #[.string (bs bn), .int .i64 bN, .int .u32 bS] 39))
      have bel1 := bel.alloc bel.size (.cells #[.string (bs bn), .int .i64 bN, .int .u32 bS] 39)
      have G1 : (wr.alloc (.cells #[.string (bs bn), .int .i64 bN, .int .u32 bS] 39)).heap[wr.heap.size]? = some (.cells #[.string (bs bn), .int .i64 bN, .int .u32 bS] 39 (0, 0)) := heap_alloc_new _ _
      go_wp2_with fail
      generalize wr.alloc (.cells #[.string (bs bn), .int .i64 bN, .int .u32 bS] 39) = v1 at W1 bel1 G1 ⊢
      generalize wr.heap.size = g at G1 hgb ⊢
      clear W bel
      refine (wtext_ok E b _ _ _ (by simp only [List.length_append]; omega) W1 (HB.out.below bel1) (by omega)).mono ?_
      rintro e v2 ⟨rfl, W2, K2⟩
      rw [bs_size, bs_list] at W2
      have bel2 := K2.old bel1 hb W1.lt
      have G2 := K2.obj G1 (by omega) (by decide)
      clear K2 bel1 W1 G1
      have f1 : v2.cell? ⟨g, 1, none⟩ = some (.int .i64 bN) := by simp [World.cell?, G2]
      go_wp2_with fail
      refine (wnum_ok E b _ _ _ (by simp only [List.length_append]; omega) W2 (HB.out.below bel2) (by omega) (by omega)).mono ?_
      rintro e v3 ⟨rfl, W3, K3⟩
      have bel3 := K3.old bel2 hb W2.lt
      have G3 := K3.obj G2 (by omega) (by decide)
      clear K3 bel2 W2 G2
      have f2 : v3.cell? ⟨g, 2, none⟩ = some (.int .u32 bS) := by simp [World.cell?, G3]
      go_wp2_with fail
      refine (wnum_ok E b _ _ _ (by simp only [List.length_append]; omega) W3 (HB.out.below bel3) (by omega) (by omega)).mono ?_
      rintro e v4 ⟨rfl, W4, K4⟩
      have bel4 := K4.old bel3 hb W3.lt
      clear K4 bel3 W3 G3
      go_wp2_with fail
      go_roundw
      case rel => exact ⟨k + 1, by go_num, KK.out, by rw [htk.out, lnText_append, lnText_one]; simpa [List.append_assoc] using W4, bel4⟩
      case measure => simp [intOf]; omega
    · have hltI : ¬ (k : Int) < l.length := by omega
      have htk : l.take k = l := List.take_of_length_le (by omega)
      rw [htk, ← HST.out] at W
      have D := wdone_any E b _ 0 wr (fun _ => by rw [HST.out]; have := num_pos l.length; simp; omega) W
      rw [HFIN.out, HEZ.out] at D
      have HD := Lib.hid D
      clear D htk W
      go_wp2_with fail
      refine HD.out.mono ?_
      rintro e w9 ⟨rfl, b9⟩
      go_wp2_with fail
      go_ret2
      exact ⟨rfl, below_trans' bel (b9.below _)⟩

set_option maxRecDepth 100000 in
set_option maxHeartbeats 1600000 in
theorem fltext_no (E : Nat → Addr) (l : List PL) (v : Value) (w : World) (hl : SliceIs w v 3 (lcells l)) (hd : ∀ x ∈ l, x.n.length ≤ maxLen) (hlen : l.length ≤ 1000000000) (hB : Has E w 2) (hN : Has E w 5) (hF : Has E w 8) (hO : Has E w 9)
    (hok : (lnFault l).1 ≠ 0) :
    Calls Tryz.prog 62 #[v] w fun e w' => ∃ r, e = .returned (.tuple #[.string (bs []), r]) ∧ FErr E w' r (lnFault l).1 (lnFault l).2 ∧ Below w.heap.size w w' := by
  have HCH := Lib.hid (fllines_any E l v w hl hd hlen hB hN hF hO)
  have HOK := Lib.hid hok
  clear hl hB hN hF hO hok
  go_enter Tryz.func62, Tryz.ntmps62
  go_wp2_with fail
  refine HCH.out.mono ?_
  rintro e w1 ⟨r, rfl, fe, b1⟩
  have FE := Lib.hid fe
  obtain ⟨t, p, rfl⟩ := fe.some HOK.out
  have HBB := Lib.hid b1
  clear fe b1 HCH
  go_wp2_with fail
  go_ret2
  exact ⟨_, by rw [bs_nil]; rfl, FE.out, HBB.out⟩
end Go.Proofs.YtdpoalbbcmkceaaGreatDoor
/- Contract of files.Read. -/
namespace Go.Proofs.YtdpoalbbcmkceaaGreatDoor
open Go.RowKit
set_option linter.unusedVariables false

/-- a line of a reader that has no error yet -/
def rdLn (l : List UInt8) : PL × List UInt8 × Nat :=
  (⟨rtT l 0, rnN (rtR l 0) (rtC l 0), rnN (rnR (rtR l 0) (rtC l 0)) (rnC (rtR l 0) (rtC l 0)) % 4294967296⟩,
   rnR (rnR (rtR l 0) (rtC l 0)) (rnC (rtR l 0) (rtC l 0)),
   if rnC (rnR (rtR l 0) (rtC l 0)) (rnC (rtR l 0) (rtC l 0)) = 0 ∧ 4294967295 < rnN (rnR (rtR l 0) (rtC l 0)) (rnC (rtR l 0) (rtC l 0)) then 1 else rnC (rnR (rtR l 0) (rtC l 0)) (rnC (rtR l 0) (rtC l 0)))
theorem rdLn_is (l l1 l2 : List UInt8) (c1 c2 : Nat) (h1 : rtR l 0 = l1) (h2 : rtC l 0 = c1) (h3 : rnR l1 c1 = l2) (h4 : rnC l1 c1 = c2) :
    rdLn l = (⟨rtT l 0, rnN l1 c1, rnN l2 c2 % 4294967296⟩, rnR l2 c2, if rnC l2 c2 = 0 ∧ 4294967295 < rnN l2 c2 then 1 else rnC l2 c2) := by
  subst h1 h2 h3 h4; rfl
theorem rtT_le (l : List UInt8) (c : Nat) : (rtT l c).length ≤ 20000 := by
  have := (tT_len l).1
  unfold rtT; split
  · exact this
  · simp
theorem tR_short (l : List UInt8) (h : tC l = 0) : (tR l).length < l.length := by
  have hg : gC l = 0 := by
    unfold tC at h; split at h
    · rename_i h1; exact absurd h h1
    · rename_i h1; omega
  have h2 := gR_short l hg
  unfold tR; rw [if_pos h, List.length_drop]; omega
theorem rdLn_len (l : List UInt8) (h : (rdLn l).2.2 = 0) : (rdLn l).2.1.length < l.length := by
  have hi := rdLn_is l _ _ _ _ rfl rfl rfl rfl
  rw [hi] at h ⊢
  simp only [] at h ⊢
  split at h
  · simp at h
  · have h3 := rnC_zero h
    have h2 := rnC_zero h3.1
    have := tR_short l (rtC_zero (l := l) (c := 0) h2.1).2
    have e1 := (rt_zero l).2.1
    have l2 := rnR_len (rtR l 0) (rtC l 0)
    have l3 := rnR_len (rnR (rtR l 0) (rtC l 0)) (rnC (rtR l 0) (rtC l 0))
    rw [e1] at l2 l3 ⊢
    omega
def rlLoop : Nat → List UInt8 → Nat → List PL → List PL × List UInt8 × Nat
  | 0, l, c, out => (out, l, c)
  | f + 1, l, c, out => if c = 0 then rlLoop f (rdLn l).2.1 (rdLn l).2.2 (out ++ [(rdLn l).1]) else (out, l, c)
theorem rlLoop_end (l : List UInt8) (c : Nat) (out : List PL) : rlLoop 0 l c out = (out, l, c) := rfl
theorem rlLoop_err (f : Nat) (l : List UInt8) {c : Nat} (h : c ≠ 0) (out : List PL) : rlLoop f l c out = (out, l, c) := by
  cases f with
  | zero => rfl
  | succ f => simp [rlLoop, h]
theorem rlLoop_step {f : Nat} (hf : 0 < f) (l : List UInt8) (out : List PL) : rlLoop f l 0 out = rlLoop (f - 1) (rdLn l).2.1 (rdLn l).2.2 (out ++ [(rdLn l).1]) := by
  obtain ⟨g, rfl⟩ : ∃ g, f = g + 1 := ⟨f - 1, by omega⟩
  simp [rlLoop]
def rl0 (L : List UInt8) : List PL × List UInt8 × Nat := rlLoop (rnN L 0) (rnR L 0) (rnC L 0) []
/-- lines that are read, an error's number -/
def readLn (L : List UInt8) : List PL × Nat :=
  if rEnd (rl0 L).2.1 (rl0 L).2.2 ≠ 0 then ([], rEnd (rl0 L).2.1 (rl0 L).2.2)
  else if (lnFault (rl0 L).1).1 ≠ 0 then ([], (lnFault (rl0 L).1).1) else ((rl0 L).1, 0)
theorem readLn_end {L l : List UInt8} {c : Nat} {out : List PL} (h : rl0 L = (out, l, c)) (h1 : rEnd l c ≠ 0) : readLn L = ([], rEnd l c) := by simp [readLn, h, h1]
theorem readLn_bad {L l : List UInt8} {c : Nat} {out : List PL} (h : rl0 L = (out, l, c)) (h1 : rEnd l c = 0) (h2 : (lnFault out).1 ≠ 0) : readLn L = ([], (lnFault out).1) := by simp [readLn, h, h1, h2]
theorem readLn_ok {L l : List UInt8} {c : Nat} {out : List PL} (h : rl0 L = (out, l, c)) (h1 : rEnd l c = 0) (h2 : (lnFault out).1 = 0) : readLn L = (out, 0) := by simp [readLn, h, h1, h2]
theorem rl0_is {L l1 : List UInt8} {c1 : Nat} (h1 : rnR L 0 = l1) (h2 : rnC L 0 = c1) : rl0 L = rlLoop (rnN L 0) l1 c1 [] := by subst h1 h2; rfl
attribute [irreducible] rdLn rlLoop rl0 readLn

set_option maxRecDepth 100000 in
set_option maxHeartbeats 3200000 in
theorem flread_any (E : Nat → Addr) (s : ByteArray) (w : World) (hs : s.size ≤ 100000000) (hT : Has E w 1) (hB : Has E w 2) (hN : Has E w 5) (hF : Has E w 8) (hO : Has E w 9) :
    Calls Tryz.prog 99 #[.string s] w fun e w' => ∃ v, e = .returned (.tuple #[v, ev E (readLn s.data.toList).2]) ∧
      w'.ownsRow w.heap.size 39 3 v (readLn s.data.toList).1.length (lcells (readLn s.data.toList).1) ∧ Below w.heap.size w w' := by
  obtain ⟨i0, hi, hz0, hz1, hz2⟩ := info_parts infoLine
  obtain ⟨L, hL⟩ : ∃ L, L = s.data.toList := ⟨_, rfl⟩
  have hLl : L.length = s.size := by rw [hL]; simp
  rw [← hL]
  have hsb : s = bs L := by rw [hL, bs_of]
  have hLb : L.length ≤ 100000000 := by omega
  clear hLl hL hs
  subst hsb
  have HB := Lib.hid hB
  have HT := Lib.hid hT
  have HFU := Lib.hid hF
  obtain ⟨l1, e1⟩ : ∃ x, rnR L 0 = x := ⟨_, rfl⟩
  obtain ⟨c1, e2⟩ : ∃ x, rnC L 0 = x := ⟨_, rfl⟩
  have hr0 := rl0_is e1 e2
  have hl1 := rnR_len L 0
  rw [e1] at hl1
  have N1 := Lib.hid (fun b (w : World) h => rnum_any E b L 0 w (by omega) h)
  rw [e1, e2] at N1
  have HR0 := Lib.hid hr0
  have hml := rnN_le L 0
  generalize rnN L 0 = many at *
  have HEZ := Lib.hid (ev_zero E)
  have HNN := Lib.hid hN
  have HOO := Lib.hid hO
  clear e1 e2 hr0 hB hT hF hN hO
  have R0 : RAt E (w.alloc (.cells #[.string (bs L), .nilIface] 114)) w.heap.size L 0 := by unfold RAt; rw [ev_zero]; exact heap_alloc_new _ _
  have b0 := below_alloc' w (.cells #[.string (bs L), .nilIface] 114)
  go_enter Tryz.func99, Tryz.ntmps99
  go_wp2_with fail
  refine (N1.out _ _ R0 (HT.out.below b0) (HB.out.below b0)).mono ?_
  rintro e w1 ⟨rfl, R1, g1⟩
  have b1 := b0.grown g1 b0.size (fun k hk => by cases hk; exact Nat.le_refl _)
  have hb : w.heap.size ≤ w.heap.size := Nat.le_refl _
  clear R0 b0 g1
  go_wp2_with fail
  go_loopw [7, 6, 8, 9, 10] (fun i o _ _ _ wr => ∃ (k : Nat) (out : List PL) (l : List UInt8) (c : Nat), i = .int .i64 k ∧ k ≤ many ∧ out.length = k ∧ out.length ≤ L.length + 1 ∧ (c = 0 → out.length + l.length ≤ L.length) ∧ l.length ≤ L.length ∧ (∀ x ∈ out, x.n.length ≤ 20000) ∧
      rl0 L = rlLoop (many - k) l c out ∧ RAt E wr w.heap.size l c ∧ wr.ownsRow (w.heap.size + 1) 39 3 o k (lcells out) ∧ Below w.heap.size w wr) (fun i _ _ _ _ _ => many - (intOf i).toNat)
  case atStart => exact ⟨0, [], l1, c1, rfl, by omega, rfl, by simp, fun _ => by simp; omega, by omega, by simp, HR0.out, R1, by rw [lcells_nil]; exact World.ownsRow_nil _ _ _ _, b1⟩
  case round =>
    clear R1 b1
    obtain ⟨k, out, l, c, rfl, hk, hok, ho1, ho2, hll, hnm, hrd, R, hown, bel⟩ := hrel
    have HNM := Lib.hid hnm
    have HRD := Lib.hid hrd
    have HOK := Lib.hid hok
    have HO2 := Lib.hid ho2
    obtain ⟨r0, r1⟩ := R.cs
    clear hrd hok ho2 hnm
    by_cases hgo : k < many ∧ c = 0
    · obtain ⟨hlt, rfl⟩ := hgo
      have hltI : (k : Int) < many := by omega
      rw [ev_zero] at r1
      obtain ⟨m1, f1⟩ : ∃ x, rtR l 0 = x := ⟨_, rfl⟩
      obtain ⟨d1, f2⟩ : ∃ x, rtC l 0 = x := ⟨_, rfl⟩
      obtain ⟨m2, f3⟩ : ∃ x, rnR m1 d1 = x := ⟨_, rfl⟩
      obtain ⟨d2, f4⟩ : ∃ x, rnC m1 d1 = x := ⟨_, rfl⟩
      obtain ⟨m3, f5⟩ : ∃ x, rnR m2 d2 = x := ⟨_, rfl⟩
      obtain ⟨d3, f6⟩ : ∃ x, rnC m2 d2 = x := ⟨_, rfl⟩
      have hblk := rdLn_is l m1 m2 d1 d2 f1 f2 f3 f4
      rw [f5, f6] at hblk
      have hstep := HRD.out.trans (rlLoop_step (by omega) l out)
      have hshort := rdLn_len l
      have hlm1 := rtR_len l 0
      have hlm2 := rnR_len m1 d1
      have hlm3 := rnR_len m2 d2
      rw [f1] at hlm1
      rw [f3] at hlm2
      rw [f5] at hlm3
      have P1 := Lib.hid (fun b (w : World) h => rtext_any E b l 0 w (by omega) h)
      have P2 := Lib.hid (fun b (w : World) h => rnum_any E b m1 d1 w (by omega) h)
      have P3 := Lib.hid (fun b (w : World) h => rnum_any E b m2 d2 w (by omega) h)
      rw [f1, f2] at P1
      rw [f3, f4] at P2
      rw [f5, f6] at P3
      rw [hblk] at hstep hshort
      simp only [] at hstep hshort
      have hx1 := rtT_le l 0
      generalize rtT l 0 = x1 at *
      generalize rnN m1 d1 = x2 at *
      generalize rnN m2 d2 = x3 at *
      have HSTEP := Lib.hid hstep
      have HSH := Lib.hid hshort
      have KK := Lib.hid (show k + 1 ≤ many ∧ many - (k + 1) = many - k - 1 by omega)
      have HO3 := Lib.hid (HO2.out rfl)
      clear f1 f2 f3 f4 f5 f6 hblk hstep hshort
      have hsz0 := R.lt
      go_wp2_with fail
      refine (P1.out _ _ R (HT.out.below bel) (HB.out.below bel)).mono ?_
      rintro e v1 ⟨rfl, R1, g1⟩
      have bel1 := bel.grown g1 bel.size (fun k hk => by cases hk; exact Nat.le_refl _)
      have hown1 := owns_other' hown (Nat.lt_succ_self _) g1
      clear R bel g1 hown r0 r1
      go_wp2_with fail
      refine (P2.out _ _ R1 (HT.out.below bel1) (HB.out.below bel1)).mono ?_
      rintro e v2 ⟨rfl, R2, g2⟩
      have bel2 := bel1.grown g2 bel1.size (fun k hk => by cases hk; exact Nat.le_refl _)
      have hown2 := owns_other' hown1 (Nat.lt_succ_self _) g2
      clear R1 bel1 g2 hown1
      go_wp2_with fail
      refine (P3.out _ _ R2 (HT.out.below bel2) (HB.out.below bel2)).mono ?_
      rintro e v3 ⟨rfl, R3, g3⟩
      have bel3 := bel2.grown g3 bel2.size (fun k hk => by cases hk; exact Nat.le_refl _)
      have hown3 := owns_other' hown2 (Nat.lt_succ_self _) g3
      clear R2 bel2 g3 hown2
      obtain ⟨r0, r1⟩ := R3.cs
      have fz := R3.fz 1
      have t1 : v3.cell? ⟨0, 0, none⟩ = some (errv (E 1)) := HT.out.below bel3
      unfold errv at t1
      have hsz3 := R3.lt
      by_cases hd : d3 = 0
      · subst hd
        rw [ev_zero] at r1
        by_cases hx : 4294967295 < x3
        · have hxI : (4294967295 : Int) < x3 := by omega
          have R4 := Lib.hid (R3.set1 1 _ (ev_is E (c := 1) (by decide)).symm)
          unfold errv at R4
          have hs := HSTEP.out
          rw [if_pos ⟨rfl, hx⟩] at hs
          have HS := Lib.hid hs
          clear hs HSTEP HSH
          have OWN := Lib.hid (owns_other' hown3 (Nat.lt_succ_self _) (grownBy_set v3 w.heap.size 1 (.iface 237 (.pointer (some (E 1))))))
          have RR := R4
          have HSZ3 := Lib.hid hsz3
          have BELX := bel3.setCell (p := ⟨w.heap.size, 1, none⟩) (Nat.le_refl _) (.iface 237 (.pointer (some (E 1))))
          have HM1 : Hid (k + 1 ≤ maxLen) := by show _ ≤ _; unfold maxLen; omega
          have HM2 : Hid ((k + 1) * 32 ≤ 140737488355328) := by show _ ≤ _; have := HOK.out; omega
          have HM3 : Hid (w.heap.size + 1 ≤ ((v3.setCell ⟨w.heap.size, 1, none⟩ (.iface 237 (.pointer (some (E 1))))).alloc (.cells #[.string (bs x1), .int .i64 x2, .int .u32 ((x3 : Int) % 4294967296)] 39)).heap.size) := by show _ ≤ _; have := BELX.size; have := HSZ3.out; simp; omega
          have NEWH : Hid (((v3.setCell ⟨w.heap.size, 1, none⟩ (.iface 237 (.pointer (some (E 1))))).alloc (.cells #[.string (bs x1), .int .i64 x2, .int .u32 ((x3 : Int) % 4294967296)] 39)).heap[v3.heap.size]? = some (.cells #[.string (bs x1), .int .i64 x2, .int .u32 ((x3 : Int) % 4294967296)] 39 (0, 0))) := by
            have h := heap_alloc_new (v3.setCell ⟨w.heap.size, 1, none⟩ (.iface 237 (.pointer (some (E 1))))) (.cells #[.string (bs x1), .int .i64 x2, .int .u32 ((x3 : Int) % 4294967296)] 39)
            have e : (v3.setCell ⟨w.heap.size, 1, none⟩ (.iface 237 (.pointer (some (E 1))))).heap.size = v3.heap.size := by simp
            rw [e] at h
            exact h
          go_wp2_with (at_builtin; refine wpList_append_own _ rfl _ _ 34 rfl (w.heap.size + 1) 39 i0 _ 3 32 Tryz.underlying34 hi hz0 hz1 hz2 rfl (by decide) _ _ _ rfl (OWN.out.alloc _) ⟨v3.heap.size, 0, none⟩ 1 1 [.string (bs x1), .int .i64 x2, .int .u32 ((x3 : Int) % 4294967296)] rfl rfl (three_newsL NEWH.out) (fun u hu => by simp at hu; rcases hu with rfl | rfl | rfl <;> rfl) HM1.out HM2.out HM3.out ?_; intro v' v5 hown' hgrow _)
          have bel5 := (BELX.alloc BELX.size (.cells #[.string (bs x1), .int .i64 x2, .int .u32 ((x3 : Int) % 4294967296)] 39)).grown hgrow (by have := BELX.size; simp; omega) (fun j hj => by have := (OWN.out.lt j hj).1; omega)
          have hne : some w.heap.size ≠ Value.ownBlock u6 := fun e => by have := (OWN.out.lt _ e.symm).1; omega
          have R5 := (RAt.below RR.out (below_alloc' _ (.cells #[.string (bs x1), .int .i64 x2, .int .u32 ((x3 : Int) % 4294967296)] 39))).grown hgrow hne
          have hcells : lcells (out ++ [⟨x1, x2, x3 % 4294967296⟩]) = lcells out ++ [.string (bs x1), .int .i64 x2, .int .u32 ((x3 : Int) % 4294967296)] := by
            rw [lcells_append, lcells_one]; simp
          go_roundw
          case rel => exact ⟨k + 1, out ++ [⟨x1, x2, x3 % 4294967296⟩], m3, 1, by go_num, KK.out.1, by simp [HOK.out], by have := HO3.out; simp; omega, (fun h => absurd h (by decide)), by omega, (fun x hx => by rcases List.mem_append.1 hx with hx | hx; exact HNM.out x hx; rw [List.mem_singleton] at hx; subst hx; exact hx1), by rw [KK.out.2]; exact HS.out, R5, by rw [hcells]; exact hown', bel5⟩
          case measure => simp [intOf]; omega
        · have hxI : ¬ (4294967295 : Int) < x3 := by omega
          have hs := HSTEP.out
          rw [if_neg (fun h => hx h.2)] at hs
          have hs2 := HSH.out
          rw [if_neg (fun h => hx h.2)] at hs2
          have HS := Lib.hid hs
          have HS2 := Lib.hid (hs2 rfl)
          clear hs hs2 HSTEP HSH
          have OWN := Lib.hid hown3
          have RR := Lib.hid R3
          have HSZ3 := Lib.hid hsz3
          have hx3 : x3 % 4294967296 = x3 := by omega
          have HX3 := Lib.hid hx3
          clear hx3
          have HM1 : Hid (k + 1 ≤ maxLen) := by show _ ≤ _; unfold maxLen; omega
          have HM2 : Hid ((k + 1) * 32 ≤ 140737488355328) := by show _ ≤ _; have := HOK.out; omega
          have HM3 : Hid (w.heap.size + 1 ≤ (v3.alloc (.cells #[.string (bs x1), .int .i64 x2, .int .u32 (x3 : Int)] 39)).heap.size) := by show _ ≤ _; have := bel3.size; have := HSZ3.out; simp; omega
          go_wp2_with (at_builtin; refine wpList_append_own _ rfl _ _ 34 rfl (w.heap.size + 1) 39 i0 _ 3 32 Tryz.underlying34 hi hz0 hz1 hz2 rfl (by decide) _ _ _ rfl (OWN.out.alloc _) ⟨v3.heap.size, 0, none⟩ 1 1 [.string (bs x1), .int .i64 x2, .int .u32 (x3 : Int)] rfl rfl (three_newsL (heap_alloc_new _ _)) (fun u hu => by simp at hu; rcases hu with rfl | rfl | rfl <;> rfl) HM1.out HM2.out HM3.out ?_; intro v' v5 hown' hgrow _)
          have bel5 := (bel3.alloc bel3.size (.cells #[.string (bs x1), .int .i64 x2, .int .u32 (x3 : Int)] 39)).grown hgrow (by have := bel3.size; simp; omega) (fun j hj => by have := (OWN.out.lt j hj).1; omega)
          have hne : some w.heap.size ≠ Value.ownBlock u6 := fun e => by have := (OWN.out.lt _ e.symm).1; omega
          have R5 := (RAt.below RR.out (below_alloc' _ (.cells #[.string (bs x1), .int .i64 x2, .int .u32 (x3 : Int)] 39))).grown hgrow hne
          have hcells : lcells (out ++ [⟨x1, x2, x3 % 4294967296⟩]) = lcells out ++ [.string (bs x1), .int .i64 x2, .int .u32 (x3 : Int)] := by
            rw [lcells_append, lcells_one]; rw [HX3.out]
          go_roundw
          case rel => exact ⟨k + 1, out ++ [⟨x1, x2, x3 % 4294967296⟩], m3, 0, by go_num, KK.out.1, by simp [HOK.out], by have := HO3.out; simp; omega, (fun _ => by have := HS2.out; have := HO3.out; simp; omega), by omega, (fun x hx => by rcases List.mem_append.1 hx with hx | hx; exact HNM.out x hx; rw [List.mem_singleton] at hx; subst hx; exact hx1), by rw [KK.out.2]; exact HS.out, R5, by rw [hcells]; exact hown', bel5⟩
          case measure => simp [intOf]; omega
      · have hs := HSTEP.out
        rw [if_neg (fun h => hd h.1)] at hs
        have HS := Lib.hid hs
        have HD := Lib.hid hd
        have hev := ev_is E hd
        rw [hev] at r1
        unfold errv at r1
        clear hs HSTEP HSH hd hev
        have OWN := Lib.hid hown3
        have RR := Lib.hid R3
        have HSZ3 := Lib.hid hsz3
        have HM1 : Hid (k + 1 ≤ maxLen) := by show _ ≤ _; unfold maxLen; omega
        have HM2 : Hid ((k + 1) * 32 ≤ 140737488355328) := by show _ ≤ _; have := HOK.out; omega
        have HM3 : Hid (w.heap.size + 1 ≤ (v3.alloc (.cells #[.string (bs x1), .int .i64 x2, .int .u32 ((x3 : Int) % 4294967296)] 39)).heap.size) := by show _ ≤ _; have := bel3.size; have := HSZ3.out; simp; omega
        go_wp2_with (at_builtin; refine wpList_append_own _ rfl _ _ 34 rfl (w.heap.size + 1) 39 i0 _ 3 32 Tryz.underlying34 hi hz0 hz1 hz2 rfl (by decide) _ _ _ rfl (OWN.out.alloc _) ⟨v3.heap.size, 0, none⟩ 1 1 [.string (bs x1), .int .i64 x2, .int .u32 ((x3 : Int) % 4294967296)] rfl rfl (three_newsL (heap_alloc_new _ _)) (fun u hu => by simp at hu; rcases hu with rfl | rfl | rfl <;> rfl) HM1.out HM2.out HM3.out ?_; intro v' v5 hown' hgrow _)
        have bel5 := (bel3.alloc bel3.size (.cells #[.string (bs x1), .int .i64 x2, .int .u32 ((x3 : Int) % 4294967296)] 39)).grown hgrow (by have := bel3.size; simp; omega) (fun j hj => by have := (OWN.out.lt j hj).1; omega)
        have hne : some w.heap.size ≠ Value.ownBlock u6 := fun e => by have := (OWN.out.lt _ e.symm).1; omega
        have R5 := (RAt.below RR.out (below_alloc' _ (.cells #[.string (bs x1), .int .i64 x2, .int .u32 ((x3 : Int) % 4294967296)] 39))).grown hgrow hne
        have hcells : lcells (out ++ [⟨x1, x2, x3 % 4294967296⟩]) = lcells out ++ [.string (bs x1), .int .i64 x2, .int .u32 ((x3 : Int) % 4294967296)] := by
          rw [lcells_append, lcells_one]; simp
        go_roundw
        case rel => exact ⟨k + 1, out ++ [⟨x1, x2, x3 % 4294967296⟩], m3, d3, by go_num, KK.out.1, by simp [HOK.out], by have := HO3.out; simp; omega, (fun h => absurd h HD.out), by omega, (fun x hx => by rcases List.mem_append.1 hx with hx | hx; exact HNM.out x hx; rw [List.mem_singleton] at hx; subst hx; exact hx1), by rw [KK.out.2]; exact HS.out, R5, by rw [hcells]; exact hown', bel5⟩
        case measure => simp [intOf]; omega
    · have hEX : rl0 L = (out, l, c) := by
        rw [HRD.out]
        by_cases hc : c = 0
        · have : many - k = 0 := by omega
          rw [this, rlLoop_end]
        · exact rlLoop_err _ _ hc _
      have HEX := Lib.hid hEX
      clear hEX
      have WAYS : ¬ (k : Int) < many ∨ (k : Int) < many ∧ c ≠ 0 := by omega
      have EN := Lib.hid (rend_any E w.heap.size l c wr R (HT.out.below bel))
      clear hgo
      obtain ⟨A, cap, rfl⟩ := owns_slice hown
      have WAYS2 : ¬ (k : Int) < many ∨ (k : Int) < many ∧ ∃ x, ev E c = .iface 237 x := by
        rcases WAYS with h | ⟨h, hc⟩
        · exact .inl h
        · exact .inr ⟨h, _, ev_pos E hc⟩
      clear WAYS
      rcases WAYS2 with h | ⟨h, x, hx⟩
      all_goals
        try rw [hx] at r1
        try clear hx
        go_wp2_with fail
        refine EN.out.mono ?_
        rintro e v4 ⟨rfl, R4, g4⟩
        have bel4 := bel.grown g4 bel.size (fun k hk => by cases hk; exact Nat.le_refl _)
        have hown4 := owns_other' hown (Nat.lt_succ_self _) g4
        clear bel g4 hown R R4 r0 r1
        by_cases he : rEnd l c = 0
        · have CK := fllines_any E out (.slice A k cap) v4 (SliceIs.ownedK hown4) (fun x hx => by have := HNM.out x hx; unfold maxLen; omega) (by omega) (HB.out.below bel4) (HNN.out.below bel4) (HFU.out.below bel4) (HOO.out.below bel4)
          have HCK := Lib.hid CK
          clear CK
          by_cases hcode : (lnFault out).1 = 0
          · have hr := readLn_ok HEX.out he hcode
            have HR := Lib.hid hr
            have HC := Lib.hid hcode
            rw [he, ev_zero]
            clear hr he hcode
            go_wp2_with fail
            refine HCK.out.mono ?_
            rintro e v5 ⟨v, rfl, fe, b5⟩
            rw [HC.out] at fe
            rw [fe.zero]
            clear fe
            go_wp2_with fail
            go_ret2
            refine ⟨_, by rw [HR.out, ev_zero]; rfl, ?_, below_trans' bel4 b5⟩
            rw [HR.out]
            simp only []
            rw [HOK.out]
            exact owns_mono (owns_below hown4 b5) (by omega)
          · have hr := readLn_bad HEX.out he hcode
            have HR := Lib.hid hr
            have HC := Lib.hid hcode
            rw [he, ev_zero]
            clear hr he hcode
            go_wp2_with fail
            refine HCK.out.mono ?_
            rintro e v5 ⟨v, rfl, fe, b5⟩
            have BA := Lib.hid (bare_any E v _ _ v5 fe)
            obtain ⟨t, p, hv⟩ := fe.some HC.out
            rw [hv] at BA ⊢
            clear fe hv
            go_wp2_with fail
            refine BA.out.mono ?_
            rintro e v6 ⟨rfl, rfl⟩
            go_wp2_with fail
            go_ret2
            refine ⟨.slice none 0 0, by rw [HR.out]; rfl, ?_, below_trans' bel4 b5⟩
            rw [HR.out]
            simp only []
            rw [lcells_nil]
            exact World.ownsRow_nil _ _ _ _
        · have HR := Lib.hid (readLn_end HEX.out he)
          have hev := ev_is E he
          rw [hev]
          have HEV := Lib.hid hev
          unfold errv at HEV ⊢
          clear hev he
          go_wp2_with fail
          go_ret2
          refine ⟨.slice none 0 0, by rw [HR.out, HEV.out]; rfl, ?_, bel4⟩
          rw [HR.out]
          simp only []
          rw [lcells_nil]
          exact World.ownsRow_nil _ _ _ _

end Go.Proofs.YtdpoalbbcmkceaaGreatDoor
/- Plain laws: lines are read as they were written. -/
namespace Go.Proofs.YtdpoalbbcmkceaaGreatDoor
open Go.RowKit
set_option linter.unusedVariables false

theorem rdLn_text (x : PL) (more : List UInt8) (h : x.n.length ≤ 12 ∧ 0 ≤ x.N ∧ x.N ≤ 4000) (hS : x.S < 4294967296) : rdLn ((num x.n.length ++ x.n) ++ num x.N.toNat ++ num x.S ++ more) = (x, more, 0) := by
  obtain ⟨h1, h2, h3⟩ := h
  have e : (num x.n.length ++ x.n) ++ num x.N.toNat ++ num x.S ++ more = num x.n.length ++ x.n ++ (num x.N.toNat ++ (num x.S ++ more)) := by simp
  rw [e]
  obtain ⟨t1, t2, t3⟩ := t_text x.n (num x.N.toNat ++ (num x.S ++ more)) (by omega)
  obtain ⟨z1, z2, z3⟩ := rt_zero (num x.n.length ++ x.n ++ (num x.N.toNat ++ (num x.S ++ more)))
  rw [t2] at z1
  rw [t3] at z2
  rw [t1] at z3
  obtain ⟨q1, q2, q3⟩ := rd_num x.N.toNat (num x.S ++ more) (by omega)
  obtain ⟨r1, r2, r3⟩ := rd_num x.S more (by omega)
  rw [rdLn_is _ _ _ _ _ z2 z3 q2 q3, z1, q1, r1, r2, r3]
  rw [if_neg (by omega)]
  have e2 : ((x.N.toNat : Nat) : Int) = x.N := by omega
  have e3 : x.S % 4294967296 = x.S := by omega
  rw [e2, e3]
theorem rlLoop_text : ∀ (l : List PL) (out : List PL) (more : List UInt8), (∀ x ∈ l, x.n.length ≤ 12 ∧ 0 ≤ x.N ∧ x.N ≤ 4000) → (∀ x ∈ l, x.S < 4294967296) → rlLoop l.length (lnText l ++ more) 0 out = (out ++ l, more, 0)
  | [], out, more, _, _ => by simp [lnText_nil, rlLoop_end]
  | b :: l, out, more, h, hS => by
    rw [lnText_cons, List.append_assoc]
    rw [rlLoop_step (by simp), rdLn_text b _ (h b (by simp)) (hS b (by simp))]
    simp only [List.length_cons, Nat.add_sub_cancel]
    rw [rlLoop_text l _ more (fun x hx => h x (by simp [hx])) (fun x hx => hS x (by simp [hx]))]
    simp
theorem readLn_text (l : List PL) (hc : LWF l) (hS : ∀ b ∈ l, b.S < 4294967296) : readLn (flText l) = (l, 0) := by
  have hfew := hc.few
  have e : flText l = num l.length ++ (lnText l ++ []) := by rw [flText_is]; simp
  obtain ⟨p1, p2, p3⟩ := rd_num l.length (lnText l ++ []) (by omega)
  have hr : rl0 (flText l) = (l, [], 0) := by
    rw [e, rl0_is p2 p3, p1, rlLoop_text l [] [] (fun x hx => by have h := hc.each x hx; exact ⟨((nameB_iff _).1 h.1).2.1, h.2.1, h.2.2⟩) hS]; simp
  exact readLn_ok hr rEnd_nil ((lnFault_wf l).2 hc)
end Go.Proofs.YtdpoalbbcmkceaaGreatDoor
/- Plain laws of lists, plans and files: what FilesBack asks. No program is in sight. -/
namespace Go.Proofs.YtdpoalbbcmkceaaGreatDoor
open Go.RowKit
set_option linter.unusedVariables false

theorem FWF.lines {l : List PF} (h : FWF l) : LWF (l.map PF.line) :=
  ⟨by rw [List.length_map]; exact h.few, fun x hx => by
    obtain ⟨f, hf, rfl⟩ := List.mem_map.1 hx
    obtain ⟨h1, h2⟩ := h.each f hf
    exact ⟨h1, by show (0 : Int) ≤ f.d.length; omega, by show (f.d.length : Int) ≤ 4000; omega⟩, List.pairwise_map.2 h.sorted⟩
theorem lines_sum (l : List PF) : ∀ x ∈ l.map PF.line, x.S < 4294967296 := by
  intro x hx
  obtain ⟨f, _, rfl⟩ := List.mem_map.1 hx
  exact csum_lt _
def BackOK (l m : List PF) (s : PS) : Prop :=
  (s.k = kSend ∧ ∃ u, fgetL l s.n = some u ∧ ∀ v, fgetL m s.n = some v → u ≠ v) ∨ (s.k = kKeep ∧ ∃ u v, fgetL l s.n = some u ∧ fgetL m s.n = some v ∧ u.length = v.length) ∨ (s.k = kDrop ∧ fgetL l s.n = none ∧ ∃ v, fgetL m s.n = some v)
theorem back_law {l m : List PF} (hl : FWF l) (hm : FWF m) : ∀ s ∈ planL (l.map PF.line) (m.map PF.line), BackOK l m s := by
  intro s hs
  have P := planL_law hl.lines.sorted hm.lines.sorted
  rcases P.of s hs with ⟨h1, x, hx, h2, h3⟩ | ⟨h1, x, hx, h2, h3⟩ | ⟨h1, ⟨y, hy, h2⟩, h3⟩
  · obtain ⟨f, hf, rfl⟩ := List.mem_map.1 hx
    have hn : f.n = s.n := h2
    refine .inl ⟨h1, f.d, by rw [← hn]; exact fgetL_of hl.sorted hf, fun v hv e => h3 ?_⟩
    have := fgetL_some hv
    rw [← e, ← hn] at this
    exact List.mem_map.2 ⟨_, this, rfl⟩
  · obtain ⟨f, hf, rfl⟩ := List.mem_map.1 hx
    obtain ⟨g, hg, e⟩ := List.mem_map.1 h3
    have hn : f.n = s.n := h2
    have e1 : g.n = f.n := congrArg PL.n e
    have e2 : (g.d.length : Int) = f.d.length := congrArg PL.N e
    exact .inr (.inl ⟨h1, f.d, g.d, by rw [← hn]; exact fgetL_of hl.sorted hf, by rw [← hn, ← e1]; exact fgetL_of hm.sorted hg, by omega⟩)
  · obtain ⟨g, hg, rfl⟩ := List.mem_map.1 hy
    have hn : g.n = s.n := h2
    refine .inr (.inr ⟨h1, ?_, g.d, by rw [← hn]; exact fgetL_of hm.sorted hg⟩)
    cases e : fgetL l s.n with
    | none => rfl
    | some d => exact absurd rfl (h3 _ (List.mem_map.2 ⟨_, fgetL_some e, rfl⟩))
theorem back_all {l m : List PF} (hl : FWF l) (hm : FWF m) : ∀ f ∈ l, ∃ s ∈ planL (l.map PF.line) (m.map PF.line), s.n = f.n := by
  intro f hf
  have P := planL_law hl.lines.sorted hm.lines.sorted
  obtain ⟨h1, h2⟩ := P.all f.line (List.mem_map.2 ⟨f, hf, rfl⟩)
  by_cases h : f.line ∈ m.map PF.line
  · exact ⟨_, h2 h, rfl⟩
  · exact ⟨_, h1 h, rfl⟩
theorem back_sorted {l m : List PF} (hl : FWF l) (hm : FWF m) : (planL (l.map PF.line) (m.map PF.line)).Pairwise fun x y => ltL x.n y.n = true := (planL_law hl.lines.sorted hm.lines.sorted).sorted
theorem pair_get {p : List PS} (h : p.Pairwise fun x y => ltL x.n y.n = true) {i : Nat} (h0 : 0 < i) (hi : i < p.length) : ltL (p[i - 1]'(by omega)).n p[i].n = true := List.pairwise_iff_getElem.1 h (i - 1) i (by omega) hi (by omega)
end Go.Proofs.YtdpoalbbcmkceaaGreatDoor
