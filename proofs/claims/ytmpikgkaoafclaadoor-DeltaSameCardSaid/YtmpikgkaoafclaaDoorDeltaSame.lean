/- DeltaSame: of blocks that are there twice the first one is taken; of a file that goes on only what is new is data. -/
import Derived.Test.YtmpikgkaoafclaaDoorDeltaLaws
import Derived.Test.YtmpikgkaoafclaaDoorSameOps
import Derived.Test.YtmpikgkaoafclaaDoorSignSizes
namespace Go.Proofs.YtmpikgkaoafclaaDoor
open Go.RowKit
set_option linter.unusedVariables false

theorem ops_lit {w : World} {s0 : Option Addr} {n0 c0 : Nat} {l : List POp} (hl : SliceIs w (.slice s0 n0 c0) 4 (ocells l)) (k : Nat) (hk : k < l.length) :
    ∃ a, s0 = some a ∧ w.cell? (a.add (k * 4)) = some (.string (bs l[k].kind)) ∧ w.cell? (a.add (k * 4 + 1)) = some (.int .i64 l[k].a) ∧
      w.cell? (a.add (k * 4 + 2)) = some (.int .i64 l[k].n) ∧ w.cell? (a.add (k * 4 + 3)) = some (.string (bs l[k].data)) := by
  obtain ⟨s0', n0', c0', e1, _, _, _, g1⟩ := hl.get
  cases e1
  obtain ⟨g2, g3, g4, g5⟩ := ocells_get l k hk
  obtain ⟨a, rfl, d0⟩ := g1 _ _ g2
  obtain ⟨a', e', d1⟩ := g1 _ _ g3
  cases e'
  obtain ⟨a', e', d2⟩ := g1 _ _ g4
  cases e'
  obtain ⟨a', e', d3⟩ := g1 _ _ g5
  cases e'
  exact ⟨a, rfl, d0, d1, d2, d3⟩
set_option maxRecDepth 100000 in
set_option maxHeartbeats 3200000 in
theorem made_ok (E : Nat → Addr) (w : World) (h2 : Has E w 2) (h8 : Has E w 8) : Calls Tryd.prog 29 #[] w fun e w' => e = .returned (.bool true) ∧ Below w.heap.size w w' := by
  have OF := of_yes ⟨#[97, 98, 99, 100, 101, 102]⟩ 3 w (by decide) (by decide) (by decide)
  have MK := fun (w' : World) s0 n0 c0 (hb : Below w.heap.size w w') h => make_any E s0 n0 c0 (blks 3 [97, 98, 99, 100, 101, 102]) 3 ⟨#[120, 97, 98, 99, 100, 101, 102]⟩ w' h (h2.below hb) (h8.below hb) (by rw [show (3 : Int) = ((3 : Nat) : Int) from rfl, blks_chk 3 _ (by decide) (by decide) (by decide)]) (by decide)
  rw [show (3 : Int).toNat = 3 from rfl, show (⟨#[120, 97, 98, 99, 100, 101, 102]⟩ : ByteArray).data.toList = [120, 97, 98, 99, 100, 101, 102] from rfl, made_data] at MK
  simp only [] at OF
  have HOF := Lib.hid OF
  have HMK := Lib.hid MK
  clear OF MK h2 h8
  go_enter Tryd.func29, Tryd.ntmps29
  go_wp2_with fail
  refine HOF.out.mono ?_
  rintro e w1 ⟨v, rfl, hown, b1⟩
  obtain ⟨A, cap, hv⟩ := owns_slice hown
  rw [hv] at hown ⊢
  have SL := Lib.hid (SliceIs.ownedK hown)
  clear hown hv HOF
  go_wp2_with fail
  refine (HMK.out _ _ _ _ b1 SL.out).mono ?_
  rintro e w2 ⟨v, rfl, hown, b2⟩
  have bel := below_trans' b1 b2
  obtain ⟨g, cap, hv, _, _, hc1, _, hc, _⟩ := owns_open hown (by decide)
  rw [hv]
  have c0 := hc 0 (.string ⟨#[100, 97, 116, 97]⟩) (by simp only [ocells_cons, ocells_nil, POp.vals, bs_kCopy, bs_kData]; rfl)
  have c1 := hc 1 (.int .i64 0) (by simp only [ocells_cons, ocells_nil, POp.vals, bs_kCopy, bs_kData]; rfl)
  have c2 := hc 2 (.int .i64 0) (by simp only [ocells_cons, ocells_nil, POp.vals, bs_kCopy, bs_kData]; rfl)
  have c3 := hc 3 (.string ⟨#[120]⟩) (by simp only [ocells_cons, ocells_nil, POp.vals, bs_kCopy, bs_kData]; unfold bs; rfl)
  have c4 := hc 4 (.string ⟨#[99, 111, 112, 121]⟩) (by simp only [ocells_cons, ocells_nil, POp.vals, bs_kCopy, bs_kData]; rfl)
  have c5 := hc 5 (.int .i64 0) (by simp only [ocells_cons, ocells_nil, POp.vals, bs_kCopy, bs_kData]; rfl)
  have c6 := hc 6 (.int .i64 2) (by simp only [ocells_cons, ocells_nil, POp.vals, bs_kCopy, bs_kData]; rfl)
  have c7 := hc 7 (.string ⟨#[]⟩) (by simp only [ocells_cons, ocells_nil, POp.vals, bs_kCopy, bs_kData]; unfold bs; rfl)
  clear hc hown hv b1 b2 SL HMK
  go_wp2_with fail
  go_ret
  exact ⟨rfl, bel⟩

set_option maxRecDepth 100000 in
set_option maxHeartbeats 6400000 in
theorem deltaSame_walk (E : Nat → Addr) (a0 : ByteArray) (a1 : ByteArray) (a2 : Int) (w : World) (_ : a0.size ≤ maxLen) (_ : a1.size ≤ maxLen) (_ : (Lit.int .i64 a2).wf = true) (hE : ∀ c ∈ [2, 8], Has E w c ∧ Sent w (E c)) (_ : ∀ c ∈ [2, 8], ∀ c' ∈ [2, 8], c ≠ c' → E c ≠ E c') :
    Calls Tryd.prog 7 #[.string a0, .string a1, .int .i64 a2] w fun e w' => e = .returned (.bool true) ∧ Below w.heap.size w w' := by
  have H2 := Lib.hid (hE 2 (by simp)).1
  have H8 := Lib.hid (hE 8 (by simp)).1
  have MO := Lib.hid (made_ok E w H2.out H8.out)
  clear hE
  by_cases hok : a0.size ≤ 150 ∧ a1.size ≤ 100 ∧ 1 ≤ a2 ∧ a2 ≤ 64
  · obtain ⟨z, rfl⟩ : ∃ z : Nat, a2 = z := ⟨a2.toNat, by omega⟩
    obtain ⟨h0, h1, hz1, hz2⟩ := hok
    have h0I : ¬ (150 : Int) < a0.size := by omega
    have h1I : ¬ (100 : Int) < a1.size := by omega
    have z1 : 1 ≤ z := by omega
    have z2 : z ≤ 64 := by omega
    have hz0 : ¬ z = 0 := by omega
    by_cases hr : a0.size % z = 0
    · have hq : a0.data.toList.length = (a0.size / z) * z := by
        have := Nat.div_add_mod a0.size z
        rw [Nat.mul_comm] at this
        simp; omega
      have hrI : ((a0.size : Int) % (z : Int)) = 0 := by omega
      have OF := Lib.hid (fun w' => of_yes a0 z w' (by omega) z1 z2)
      have hck := blks_chk z a0.data.toList z1 z2 (by simp; omega)
      have hck2 := twice_chk z a0.data.toList _ z1 z2 hq (by simp; omega)
      have hcs := mkOps_goes_on z a0.data.toList a1.data.toList _ z1 hq
      have htw := mkOps_twice (blks z a0.data.toList) z (a0.data.toList ++ a1.data.toList)
      have hln : (blks z a0.data.toList).length ≤ 150 := by
        have := cnt_le z a0.data.toList.length z1
        rw [blks_len]; simp at this ⊢; omega
      have happ : (a0 ++ a1).data.toList = a0.data.toList ++ a1.data.toList := by simp
      have hsz : (a0 ++ a1).size = a0.size + a1.size := by simp
      have hoo := mkOps_ok (blks z a0.data.toList) z (a0.data.toList ++ a1.data.toList) z1 (by omega)
      generalize blks z a0.data.toList = l at *
      have MK1 := Lib.hid (fun (w' : World) s0 n0 c0 (hb : Below w.heap.size w w') h => by have := make_any E s0 n0 c0 l z (a0 ++ a1) w' h (H2.out.below hb) (H8.out.below hb) (by rw [hck]) (by omega); rw [Int.toNat_natCast, happ] at this; exact this)
      have MK2 := Lib.hid (fun (w' : World) s0 n0 c0 (hb : Below w.heap.size w w') h => by have := make_any E s0 n0 c0 (l ++ l) z (a0 ++ a1) w' h (H2.out.below hb) (H8.out.below hb) (by rw [hck2]) (by omega); rw [Int.toNat_natCast, happ, htw] at this; exact this)
      generalize mkOps l z (a0.data.toList ++ a1.data.toList) = o at *
      have HCS : Hid (¬ (a1.size : Int) < costN o) := by show ¬ _; simp at hcs; omega
      have CO := Lib.hid (fun (w' : World) s0 n0 c0 h => cost_any s0 n0 c0 o w' h (by simp at hcs; omega))
      have hol : o.length ≤ 250 := by have := hoo.1; simp at this; omega
      clear hck hck2 hcs htw happ hoo hq hr hz1 hz2
      have hcat : ¬ 9223372036854775807 < a0.size + a1.size := by omega
      go_enter Tryd.func7, Tryd.ntmps7
      go_wp2_with fail
      refine MO.out.mono ?_
      rintro e w1 ⟨rfl, b1⟩
      go_wp2_with fail
      refine (OF.out w1).mono ?_
      rintro e w2 ⟨v, rfl, hown, b2⟩
      have b12 := below_trans' b1 b2
      have HSL0 := Lib.hid (SliceIs.ownedK hown)
      obtain ⟨A, cap, hv⟩ := owns_slice hown
      rw [hv] at HSL0 ⊢
      clear hown hv b1 b2
      go_wp2_with fail
      refine (MK1.out _ _ _ _ b12 HSL0.out).mono ?_
      rintro e w3 ⟨v, rfl, hown, b3⟩
      have b13 := below_trans' b12 b3
      have HSL1 := Lib.hid (HSL0.out.below b3)
      have HO1 := Lib.hid (SliceIs.ownedK hown)
      obtain ⟨A1, cap1, hv⟩ := owns_slice hown
      rw [hv] at HO1 ⊢
      clear hown hv b12 b3 HSL0
      have hcs := HCS.out
      go_wp2_with (go_at_call 28; refine (CO.out _ _ _ _ HO1.out).mono ?_; rintro e w4 ⟨rfl, b4⟩)
      have b14 := below_trans' b13 b4
      have HSL2 := Lib.hid (HSL1.out.below b4)
      have HO2 := Lib.hid (HO1.out.below b4)
      clear b13 b4 HSL1 HO1
      refine (ownBlocks_any _ _ _ l _ HSL2.out (by omega)).mono ?_
      rintro e w5 ⟨v, rfl, hown, b5⟩
      have b15 := below_trans' b14 b5
      have b14s := b14.size
      have HSL3 := Lib.hid (HSL2.out.below b5)
      have HO3 := Lib.hid (HO2.out.below b5)
      have hb4 := b5.size
      obtain ⟨A2, cap2, hv⟩ := owns_slice hown
      rw [hv] at hown ⊢
      have B45 := Lib.hid b5
      clear b14 b5 HSL2 hv
      obtain ⟨i0, hi, hz0', hz1', hz2'⟩ := info_parts info_blk
      have HM1 : Hid (l.length + l.length ≤ maxLen) := by show _ ≤ _; unfold maxLen; omega
      have HM2 : Hid ((l.length + l.length) * 24 ≤ 140737488355328) := by show _ ≤ _; omega
      rcases HSL3.out with ⟨e1, e2⟩ | ⟨ad, len, cap', e1, e2, e3, e4, e5⟩
      · injection e1 with eA en ec
        obtain rfl : l = [] := List.eq_nil_of_length_eq_zero en
        subst eA ec
        clear e2 en
        have HB45 := Lib.hid hb4
        have HOW := Lib.hid (show w5.ownsRow w4.heap.size 55 3 (.slice A2 0 cap2) 0 (bcells []) from hown)
        clear hown
        go_wp2_with (at_builtin; refine wpList_append_own_none rfl _ _ _ rfl w4.heap.size 55 i0 3 Tryd.underlying37 hi _ _ _ rfl HOW.out rfl ?_)
        have b16 := b15
        have HT := Lib.hid (show SliceIs w5 (.slice A2 0 cap2) 3 (bcells ([] ++ [])) from SliceIs.ownedK HOW.out)
        have HO5 := HO3
        clear b15
        refine (MK2.out _ _ _ _ b16 HT.out).mono ?_
        rintro e w7 ⟨v, rfl, hown, b7⟩
        have b17 := below_trans' b16 b7
        have HO4 := Lib.hid (HO5.out.below b7)
        have HP := Lib.hid (SliceIs.ownedK hown)
        obtain ⟨A3, cap3, hv⟩ := owns_slice hown
        rw [hv] at HP ⊢
        have SO := sameOps_any A1 o.length cap1 A3 o.length cap3 o o w7 HO4.out HP.out
        rw [sameO_yes rfl] at SO
        have HSO := Lib.hid SO
        clear SO hown hv b16 b7
        go_wp2_with (go_at_call 32; refine HSO.out.mono ?_; rintro e w8 ⟨rfl, b8⟩)
        go_ret
        exact ⟨rfl, below_trans' b17 (b8.below _)⟩
      · injection e1 with eA en ec
        subst eA ec
        have HL5 : Hid ((bcells l).length = l.length * 3) := bcells_len l
        have HC5 := Lib.hid e5
        have HLE : Hid (w4.heap.size ≤ w5.heap.size) := hb4
        clear e2 e3 e4 e5 en
        go_wp2_with (at_builtin; refine wpList_append_own _ rfl _ _ 37 rfl w4.heap.size 55 i0 _ 3 24 Tryd.underlying37 hi hz0' hz1' hz2' rfl (by decide) _ _ _ rfl hown ad l.length cap (bcells l) rfl HL5.out HC5.out (bcells_cell l) HM1.out HM2.out HLE.out ?_; intro v' w6 hown' hgrow _; obtain ⟨A2', cap2', rfl⟩ := owns_slice hown')
        have b56 : Below w4.heap.size w5 w6 := (Below.refl _ w5).grown hgrow hb4 (fun k hk => (hown.lt k hk).1)
        have b16 := b15.trans (b56.mono b14s)
        have HT := Lib.hid (show SliceIs w6 (.slice A2' (l.length + l.length) cap2') 3 (bcells (l ++ l)) from by rw [bcells_append]; exact SliceIs.ownedK hown')
        have HO5 := Lib.hid (HO2.out.below (B45.out.trans b56))
        clear b15 b56 hown hown' hgrow
        refine (MK2.out _ _ _ _ b16 HT.out).mono ?_
        rintro e w7 ⟨v, rfl, hown, b7⟩
        have b17 := below_trans' b16 b7
        have HO4 := Lib.hid (HO5.out.below b7)
        have HP := Lib.hid (SliceIs.ownedK hown)
        obtain ⟨A3, cap3, hv⟩ := owns_slice hown
        rw [hv] at HP ⊢
        have SO := sameOps_any A1 o.length cap1 A3 o.length cap3 o o w7 HO4.out HP.out
        rw [sameO_yes rfl] at SO
        have HSO := Lib.hid SO
        clear SO hown hv b16 b7
        go_wp2_with (go_at_call 32; refine HSO.out.mono ?_; rintro e w8 ⟨rfl, b8⟩)
        go_ret
        exact ⟨rfl, below_trans' b17 (b8.below _)⟩
    · have hrI : ((a0.size : Int) % (z : Int) != 0) = true := by simp; omega
      clear hr
      go_enter Tryd.func7, Tryd.ntmps7
      go_wp2_with fail
      refine MO.out.mono ?_
      rintro e w1 ⟨rfl, b1⟩
      go_wp2_with fail
      go_ret
      exact ⟨rfl, b1⟩
  · have hno : (150 : Int) < a0.size ∨ ¬ (150 : Int) < a0.size ∧ (100 : Int) < a1.size ∨ ¬ (150 : Int) < a0.size ∧ ¬ (100 : Int) < a1.size ∧ a2 < 1 ∨ ¬ (150 : Int) < a0.size ∧ ¬ (100 : Int) < a1.size ∧ ¬ a2 < 1 ∧ 64 < a2 := by omega
    clear hok
    rcases hno with h | ⟨h, h'⟩ | ⟨h, h', h''⟩ | ⟨h, h', h'', h'''⟩
    all_goals
      go_enter Tryd.func7, Tryd.ntmps7
      go_wp2_with fail
      refine MO.out.mono ?_
      rintro e w1 ⟨rfl, b1⟩
      go_wp2_with fail
      go_ret
      exact ⟨rfl, b1⟩
end Go.Proofs.YtmpikgkaoafclaaDoor
