/- Contract of sign.Text. -/
import Derived.Test.YtkhjhbgoccljfaaDoorCheck
namespace Go.Proofs.YtkhjhbgoccljfaaDoor
open Go.RowKit

def bText (l : List Blk) : List UInt8 := l.flatMap fun b => num b.N.toNat ++ num b.W.toNat ++ num b.S
theorem bText_nil : bText [] = [] := rfl
theorem bText_append (a b : List Blk) : bText (a ++ b) = bText a ++ bText b := by simp [bText]
theorem bText_one (b : Blk) : bText [b] = num b.N.toNat ++ num b.W.toNat ++ num b.S := by simp [bText]
theorem bText_cons (b : Blk) (l : List Blk) : bText (b :: l) = num b.N.toNat ++ num b.W.toNat ++ num b.S ++ bText l := by simp [bText]
theorem bText_len (l : List Blk) : (bText l).length ≤ 21 * l.length := by
  induction l with
  | nil => simp [bText]
  | cons b l ih =>
    rw [bText_cons]
    have := num_len b.N.toNat
    have := num_len b.W.toNat
    have := num_len b.S
    simp only [List.length_append, List.length_cons]
    omega
def sText (l : List Blk) (size : Int) : List UInt8 := num size.toNat ++ num l.length ++ bText l
theorem sText_is (l : List Blk) (size : Int) : sText l size = num size.toNat ++ num l.length ++ bText l := rfl
attribute [irreducible] bText sText

theorem wnum_ok (E : Nat → Addr) (b : Nat) (l : List UInt8) (n : Int) (w : World) (hl : l.length ≤ 1000000000) (h : WAt E w b l 0) (hB : Has E w 2) (hn : 0 ≤ n) (hn2 : n ≤ 1099511627776) :
    Calls Tryd.prog 55 #[.pointer (some ⟨b, 0, none⟩), .int .i64 n] w fun e w' => e = .returned (.tuple #[]) ∧ WAt E w' b (l ++ num n.toNat) 0 ∧ KeepW b w w' := by
  have := wnum_any E b l 0 n w hl h hB
  rw [(putC_yes ⟨hn, hn2⟩).1, (putC_yes ⟨hn, hn2⟩).2, fstErr_zero] at this
  exact this
theorem wtext_ok (E : Nat → Addr) (b : Nat) (l : List UInt8) (s : ByteArray) (w : World) (hl : l.length ≤ 1000000000) (h : WAt E w b l 0) (hB : Has E w 2) (hs : s.size ≤ 20000) :
    Calls Tryd.prog 64 #[.pointer (some ⟨b, 0, none⟩), .string s] w fun e w' => e = .returned (.tuple #[]) ∧ WAt E w' b (l ++ (num s.size ++ s.data.toList)) 0 ∧ KeepW b w w' := by
  have := wtext_any E b l 0 s w (by omega) hl h hB
  have e : s.data.toList.length = s.size := by simp
  rw [(ptC_yes (by omega)).1, (ptC_yes (by omega)).2, fstErr_zero, e] at this
  exact this
theorem KeepW.obj {b g : Nat} {w w' : World} {cs : Array Value} {t : TypeId} {fr : Nat × Nat} (h : KeepW b w w') (hg : w.heap[g]? = some (.cells cs t fr)) (hne : g ≠ b) (ht : t ≠ 5) : w'.heap[g]? = some (.cells cs t fr) :=
  (h.block g (lt_of_block hg) hne (.inr (fun cur e => by rw [hg] at e; injection e with e; injection e with _ e _; exact ht e))).trans hg
theorem WAt.lt {E : Nat → Addr} {w : World} {b : Nat} {l : List UInt8} {c : Nat} (h : WAt E w b l c) : b < w.heap.size := by obtain ⟨v, h1, _⟩ := h; exact lt_of_block h1
theorem WAt.below {E : Nat → Addr} {w w' : World} {b : Nat} {l : List UInt8} {c : Nat} (h : WAt E w b l c) (hb : Below w.heap.size w w') : WAt E w' b l c := by
  obtain ⟨v, h⟩ := h
  exact ⟨v, WRaw.below (x := ev E c) h hb⟩
theorem WAt.new (E : Nat → Addr) (w : World) : WAt E (w.alloc (.cells #[.slice none 0 0, .nilIface] 98)) w.heap.size [] 0 :=
  ⟨.slice none 0 0, by rw [ev_zero]; exact heap_alloc_new _ _, World.ownsRow_nil _ _ _ _⟩
theorem below_alloc' (w : World) (o : Obj) : Below w.heap.size w (w.alloc o) := (Below.refl _ w).alloc (Nat.le_refl _) o

set_option maxRecDepth 100000 in
set_option maxHeartbeats 3200000 in
theorem stext_yes (E : Nat → Addr) (s0 : Option Addr) (n0 c0 : Nat) (l : List Blk) (size : Int) (w : World) (hl : SliceIs w (.slice s0 n0 c0) 3 (bcells l)) (hS : ∀ b ∈ l, b.S < 4294967296) (hB : Has E w 2) (hF : Has E w 8)
    (hok : (chk l size).1 = 0) :
    Calls Tryd.prog 21 #[.slice s0 n0 c0, .int .i64 size] w fun e w' => e = .returned (.tuple #[.string (bs (sText l size)), .nilIface]) ∧ Below w.heap.size w w' := by
  have CH := check_any E s0 n0 c0 l size w hl hB hF
  rw [hok] at CH
  obtain ⟨k1, k2, k3, k4⟩ := chk_ok hok
  have hlen : l.length = n0 ∧ c0 ≤ maxLen ∧ n0 ≤ c0 := by
    obtain ⟨s0', n0', c0', e1, e2, e3, e4, _⟩ := hl.get
    cases e1
    rw [bcells_len] at e2
    exact ⟨by omega, e4, e3⟩
  obtain ⟨rfl, hc0, hc1⟩ := hlen
  unfold maxLen at hc0
  have HLS := Lib.hid hl
  have HB := Lib.hid hB
  have HCH := Lib.hid CH
  have HEA := Lib.hid k4
  have HSS := Lib.hid hS
  have hst := sText_is l size
  have HST := Lib.hid hst
  have hfin := doneL_zero
  have HFIN := Lib.hid hfin
  have HEZ := Lib.hid (ev_zero E)
  clear hst hfin hl hB hF CH k4 hS hok
  go_enter Tryd.func21, Tryd.ntmps21
  go_wp2_with fail
  refine HCH.out.mono ?_
  rintro e w1 ⟨v, rfl, fe, b1⟩
  rw [fe.zero]
  clear fe
  go_wp2_with fail
  have W0 := WAt.new E w1
  have bA := b1.alloc b1.size (.cells #[.slice none 0 0, .nilIface] 98)
  have hb : w.heap.size ≤ w1.heap.size := b1.size
  generalize w1.alloc (.cells #[.slice none 0 0, .nilIface] 98) = w2 at W0 bA ⊢
  generalize w1.heap.size = b at W0 hb ⊢
  clear b1
  refine (wnum_ok E b _ _ _ (by simp) W0 (HB.out.below bA) (by omega) (by omega)).mono ?_
  rintro e w3 ⟨rfl, W3, K3⟩
  have b3 := K3.old bA hb W0.lt
  clear K3 bA W0
  go_wp2_with fail
  refine (wnum_ok E b _ _ _ (by have := num_len size.toNat; simp; omega) W3 (HB.out.below b3) (by omega) (by omega)).mono ?_
  rintro e w4 ⟨rfl, W4, K4⟩
  have b4 := K4.old b3 hb W3.lt
  clear K4 b3 W3
  go_wp2_with fail
  go_loopw [28, 9] (fun i _ wr => ∃ k : Nat, i = .int .i64 k ∧ k ≤ l.length ∧ WAt E wr b (num size.toNat ++ num l.length ++ bText (l.take k)) 0 ∧ Below w.heap.size w wr) (fun i _ _ => l.length - (intOf i).toNat)
  case atStart => exact ⟨0, rfl, by omega, by simpa [bText_nil] using W4, b4⟩
  case round =>
    clear W4 b4
    obtain ⟨k, rfl, hk, W, bel⟩ := hrel
    by_cases hlt : k < l.length
    · have hltI : (k : Int) < l.length := by omega
      obtain ⟨s0', n0', c0', e1, _, _, _, g1⟩ := (HLS.out.below bel).get
      cases e1
      obtain ⟨g2, g3, g4⟩ := bcells_get l k hlt
      obtain ⟨ad, rfl, d0⟩ := g1 _ _ g2
      obtain ⟨a', e', d1⟩ := g1 _ _ g3
      cases e'
      obtain ⟨a', e', d2⟩ := g1 _ _ g4
      cases e'
      clear g1 g2 g3 g4
      have KK := Lib.hid (show k + 1 ≤ l.length by omega)
      have x1 : (0 : Int) ≤ k := by omega
      have x2 : (k : Int).toNat = k := by omega
      have hea := HEA.out _ (List.getElem_mem hlt)
      have hs := HSS.out _ (List.getElem_mem hlt)
      have htk := Lib.hid (List.take_succ_eq_append_getElem hlt)
      have hlen := bText_len (l.take k)
      have hlen2 : (l.take k).length ≤ 4000 := by simp; omega
      have hn1 := num_len size.toNat
      have hn2 := num_len l.length
      generalize l[k] = bk at d0 d1 d2 hea hs htk
      obtain ⟨bn, bw, bS⟩ := bk
      have d1 := cell_at d1
      have d2 := cell_at d2
      simp only [] at d0 d1 d2 hea hs
      obtain ⟨y1, y2, y3, y4⟩ := hea
      have hn3 := num_len bn.toNat
      have hn4 := num_len bw.toNat
      have hgb : b < wr.heap.size := W.lt
      have W1 := W.below (below_alloc' wr (.cells #[.int .i64 bn, .int .i64 bw, .int .u32 bS] 92))
      have bel1 := bel.alloc bel.size (.cells #[.int .i64 bn, .int .i64 bw, .int .u32 bS] 92)
      have G1 : (wr.alloc (.cells #[.int .i64 bn, .int .i64 bw, .int .u32 bS] 92)).heap[wr.heap.size]? = some (.cells #[.int .i64 bn, .int .i64 bw, .int .u32 bS] 92 (0, 0)) := heap_alloc_new _ _
      go_wp2_with fail
      generalize wr.alloc (.cells #[.int .i64 bn, .int .i64 bw, .int .u32 bS] 92) = v1 at W1 bel1 G1 ⊢
      generalize wr.heap.size = g at G1 hgb ⊢
      clear W bel
      refine (wnum_ok E b _ _ _ (by simp only [List.length_append]; omega) W1 (HB.out.below bel1) (by omega) (by omega)).mono ?_
      rintro e v2 ⟨rfl, W2, K2⟩
      have bel2 := K2.old bel1 hb W1.lt
      have G2 := K2.obj G1 (by omega) (by decide)
      clear K2 bel1 W1 G1
      have f1 : v2.cell? ⟨g, 1, none⟩ = some (.int .i64 bw) := by simp [World.cell?, G2]
      go_wp2_with fail
      refine (wnum_ok E b _ _ _ (by simp only [List.length_append]; omega) W2 (HB.out.below bel2) (by omega) (by omega)).mono ?_
      rintro e v3 ⟨rfl, W3, K3⟩
      have bel3 := K3.old bel2 hb W2.lt
      have G3 := K3.obj G2 (by omega) (by decide)
      clear K3 bel2 W2 G2
      have f2 : v3.cell? ⟨g, 2, none⟩ = some (.int .u32 bS) := by simp [World.cell?, G3]
      go_wp2_with fail
      refine (wnum_ok E b _ _ _ (by simp only [List.length_append]; omega) W3 (HB.out.below bel3) (by omega) (by omega)).mono ?_
      rintro e v4 ⟨rfl, W4, K4⟩
      have bel4 := K4.old bel3 hb W3.lt
      clear K4 bel3 W3 G3
      go_wp2_with fail
      go_roundw
      case rel => exact ⟨k + 1, by go_num, KK.out, by rw [htk.out, bText_append, bText_one]; simpa [List.append_assoc] using W4, bel4⟩
      case measure => simp [intOf]; omega
    · have hltI : ¬ (k : Int) < l.length := by omega
      have htk : l.take k = l := List.take_of_length_le (by omega)
      rw [htk, ← HST.out] at W
      have D := wdone_any E b _ 0 wr (fun _ => by rw [HST.out]; have := num_pos size.toNat; simp; omega) W
      rw [HFIN.out, HEZ.out] at D
      have HD := Lib.hid D
      clear D htk W
      go_wp2_with fail
      refine HD.out.mono ?_
      rintro e w9 ⟨rfl, b9⟩
      go_wp2_with fail
      go_ret2
      exact ⟨rfl, below_trans' bel (b9.below _)⟩

set_option maxRecDepth 100000 in
set_option maxHeartbeats 1600000 in
theorem stext_no (E : Nat → Addr) (s0 : Option Addr) (n0 c0 : Nat) (l : List Blk) (size : Int) (w : World) (hl : SliceIs w (.slice s0 n0 c0) 3 (bcells l)) (hB : Has E w 2) (hF : Has E w 8)
    (hok : (chk l size).1 ≠ 0) :
    Calls Tryd.prog 21 #[.slice s0 n0 c0, .int .i64 size] w fun e w' => e = .returned (.tuple #[.string (bs []), ev E (chk l size).1]) ∧ Below w.heap.size w w' := by
  have HCH := Lib.hid (check_any E s0 n0 c0 l size w hl hB hF)
  generalize (chk l size).1 = c at *
  generalize (chk l size).2 = a at *
  have HOK := Lib.hid hok
  clear hl hB hF hok
  go_enter Tryd.func21, Tryd.ntmps21
  go_wp2_with fail
  refine HCH.out.mono ?_
  rintro e w1 ⟨v, rfl, fe, b1⟩
  have BA := Lib.hid (bare_any E v c a w1 fe)
  obtain ⟨t, p, hv⟩ := fe.some HOK.out
  rw [hv] at BA ⊢
  clear fe hv
  go_wp2_with fail
  refine BA.out.mono ?_
  rintro e w2 ⟨rfl, rfl⟩
  go_wp2_with fail
  go_ret2
  exact ⟨ret2 (by rw [bs_nil]; rfl) rfl, b1⟩
end Go.Proofs.YtkhjhbgoccljfaaDoor
