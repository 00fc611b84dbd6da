/- BasisTells: any marks, any file, any text. -/
import Derived.Test.YtomaojpldinmgaaGreatDoorMarked
import Derived.Test.YtomaojpldinmgaaGreatDoorRefRdMk
import Derived.Test.YtomaojpldinmgaaGreatDoorLongMk
import Derived.Test.YtomaojpldinmgaaGreatDoorLaid
import Derived.Test.YtomaojpldinmgaaGreatDoorCode
import Derived.Outline
namespace Go.Proofs.YtomaojpldinmgaaGreatDoor
open Go.RowKit
set_option linter.unusedVariables false

theorem mkC_le (m : PMk) : mkC m ≤ 12 := by
  unfold mkC
  split
  · omega
  · split <;> omega
theorem rdM_le (s : List UInt8) : (rdM s).2 ≤ 12 := by
  unfold rdM
  split
  · unfold rdW
    split
    · split
      · simp only; omega
      · split <;> (simp only; omega)
    · simp only; omega
  · simp only; omega
theorem mk_take {l : List PMk} {k : Nat} (h : k < l.length) : mkcells (l.take (k + 1)) = mkcells (l.take k) ++ [.string (bs l[k].n), .int .i64 l[k].N, .int .u32 l[k].S] := by
  rw [List.take_succ_eq_append_getElem h, mkcells_snoc]; rfl
theorem rdM_S (s : List UInt8) : (rdM s).1.S ≤ 4294967295 := by
  unfold rdM
  split
  · unfold rdW
    split
    · split
      · simp [zmk]
      · split
        · simp [zmk]
        · simp only; omega
    · simp [zmk]
  · simp [zmk]
theorem tdiv_nat (a b : Nat) : ((a : Nat) : Int).tdiv (b : Int) = ((a / b : Nat) : Int) := rfl
theorem mk_all {l : List PMk} {k : Nat} (h : l.length ≤ k) : l.take k = l := List.take_of_length_le h
theorem mksL_each {name data : List UInt8} {step k : Nat} (i : Nat) (h : i < (mksL name data step k).length) : (mksL name data step k)[i]'h = ⟨name, ((step * (i + 1) : Nat) : Int), csum (data.take (step * (i + 1)))⟩ := by
  have := mksL_get name data step k i (by rw [mksL_len] at h; exact h)
  rw [List.getElem?_eq_getElem h] at this
  exact Option.some.inj this
def step_in (st len i : Nat) : Prop := 1 ≤ st * (i + 1) ∧ st * (i + 1) ≤ len
theorem step_in_of {st len i : Nat} (h1 : 1 ≤ st) (h : i < len / st) : step_in st len i := by
  have h2 : st * (i + 1) ≤ st * (len / st) := Nat.mul_le_mul_left _ h
  have h3 := Nat.mul_div_le len st
  have h4 : 0 < st * (i + 1) := Nat.mul_pos h1 (by omega)
  exact ⟨by omega, by omega⟩
theorem ne_self (s : ByteArray) : (s.toList != s.toList) = false := by simp
attribute [local irreducible] mkX mkC mkT rdM farL mksL msC nameB lmk
set_option maxRecDepth 100000 in
set_option maxHeartbeats 25600000 in
theorem basisTells_walk (E : Nat → Addr) (s0 : Option Addr) (n0 c0 : Nat) (a0 : List RMk) (a1 : ByteArray) (a2 : ByteArray) (a3 : Int) (a4 : ByteArray) (w : World) (hA : SliceIs w (.slice s0 n0 c0) RMk.cells (a0.flatMap RMk.vals) ∧ ∀ x ∈ a0, x.ok) (h1 : a1.size ≤ maxLen) (h2 : a2.size ≤ maxLen) (hz : (Lit.int .i64 a3).wf = true) (h4 : a4.size ≤ maxLen) (hh : Hand w) (hT : TabW w) (hM : MaxW w) (hH : ∀ c ∈ [1, 2, 3, 4, 5, 6, 7, 8, 9, 10, 11, 12, 14, 13], Has E w c ∧ Sent w (E c)) (hD : ∀ c ∈ [1, 2, 3, 4, 5, 6, 7, 8, 9, 10, 11, 12, 14, 13], ∀ c' ∈ [1, 2, 3, 4, 5, 6, 7, 8, 9, 10, 11, 12, 14, 13], c ≠ c' → E c ≠ E c') :
    Calls Tryz.prog 3 #[.slice s0 n0 c0, .string a1, .string a2, .int .i64 a3, .string a4] w fun e w' => e = .returned (.bool true) ∧ Below w.heap.size w w' := by
  have hsub : ∀ c ∈ [1, 2, 3, 4, 5, 6, 7, 8, 9, 10, 11, 12], c ∈ [1, 2, 3, 4, 5, 6, 7, 8, 9, 10, 11, 12, 14, 13] := by simp
  have HERR := Lib.hid (Errs.of hh (fun c hc => hH c (hsub c hc)) (fun c hc c' hc' => hD c (hsub c hc) c' (hsub c' hc')))
  have hLW : LibW E w := ⟨hT, hM, (hH 13 (by simp)).1, (hH 14 (by simp)).1⟩
  have HLW := Lib.hid hLW
  have H1 := Lib.hid (hH 1 (by simp)).1
  have H2 := Lib.hid (hH 2 (by simp)).1
  have H5 := Lib.hid (hH 5 (by simp)).1
  have MK := Lib.hid (marked_ok E w hLW H2.out H5.out)
  obtain ⟨hsl, _⟩ := hA
  rw [show RMk.cells = 3 from rfl] at hsl
  obtain ⟨n, rfl⟩ : ∃ b, a1 = bs b := ⟨a1.data.toList, (bs_of a1).symm⟩
  obtain ⟨d, rfl⟩ : ∃ b, a2 = bs b := ⟨a2.data.toList, (bs_of a2).symm⟩
  obtain ⟨s, rfl⟩ : ∃ b, a4 = bs b := ⟨a4.data.toList, (bs_of a4).symm⟩
  rw [bs_size] at h1 h2 h4
  unfold maxLen at h1 h2 h4
  have hnz : (bs n).size = n.length := bs_size n
  have hdz : (bs d).size = d.length := bs_size d
  have hsz : (bs s).size = s.length := bs_size s
  have LG := Lib.hid (fun (w' : World) (b : Below w.heap.size w w') => longMarks_any a0 s0 n0 c0 w' (hsl.below b))
  have LNO := Lib.hid (lmk_no a0)
  have hHSL := Lib.hid hsl
  clear hT hM hH hLW hh hD hsub hsl
  generalize lmk a0 = lg at *
  have stop : ∀ (hq : ¬ (lg = false ∧ n.length ≤ 30 ∧ (d.length ≤ 150 ∨ d.length = 4001) ∧ s.length ≤ 60)), Calls Tryz.prog 3 #[.slice s0 n0 c0, .string (bs n), .string (bs d), .int .i64 a3, .string (bs s)] w fun e w' => e = .returned (.bool true) ∧ Below w.heap.size w w' := by
    intro hq
    clear hHSL LNO
    cases lg with
    | true =>
      clear hq
      go_enter Tryz.func3, Tryz.ntmps3
      go_wp2_with fail
      refine MK.out.mono ?_
      rintro e w1 ⟨rfl, b1⟩
      go_wp2_with fail
      refine (LG.out _ b1).mono ?_
      rintro e w2 ⟨rfl, rfl⟩
      go_wp2_with fail
      go_ret
      exact ⟨rfl, b1⟩
    | false =>
      have hq : ¬ (n.length ≤ 30 ∧ (d.length ≤ 150 ∨ d.length = 4001) ∧ s.length ≤ 60) := fun h => hq ⟨rfl, h⟩
      have hor : (30 : Int) < n.length ∨ ¬ (30 : Int) < n.length ∧ (((150 : Int) < d.length ∧ ((d.length : Int) != 4001) = true) ∨ ((¬ (150 : Int) < d.length) ∧ (60 : Int) < s.length) ∨ ((150 : Int) < d.length ∧ ((d.length : Int) != 4001) = false) ∧ (60 : Int) < s.length) := by
        have e1 : (((d.length : Int) != 4001) = true) ↔ d.length ≠ 4001 := by rw [bne_iff_ne]; omega
        have e2 : (((d.length : Int) != 4001) = false) ↔ d.length = 4001 := by rw [bne_eq_false_iff_eq]; omega
        rw [e1, e2]
        omega
      clear hq
      rcases hor with k1 | ⟨k1, ⟨k2, k3⟩ | ⟨k2, k3⟩ | ⟨⟨k2, k3⟩, k4⟩⟩
      all_goals
        go_enter Tryz.func3, Tryz.ntmps3
        go_wp2_with fail
        refine MK.out.mono ?_
        rintro e w1 ⟨rfl, b1⟩
        go_wp2_with fail
        refine (LG.out _ b1).mono ?_
        rintro e w2 ⟨rfl, rfl⟩
        go_wp2_with fail
        go_ret
        exact ⟨rfl, b1⟩
  by_cases hq : lg = false ∧ n.length ≤ 30 ∧ (d.length ≤ 150 ∨ d.length = 4001) ∧ s.length ≤ 60
  · clear stop
    obtain ⟨rfl, q1, q2, q3⟩ := hq
    obtain ⟨l, el, ell, el40, elb⟩ := LNO.out rfl
    rw [el] at hHSL
    have HEB := Lib.hid elb
    clear LNO el elb
    have k1 : ¬ (30 : Int) < n.length := by omega
    have k3 : ¬ (60 : Int) < s.length := by omega
    obtain ⟨s', n', c', e', hn', _, _, _⟩ := hHSL.out.get
    cases e'
    rw [rmkcells_len] at hn'
    obtain rfl : n0 = l.length := by omega
    clear hn' ell
    have TX := Lib.hid (fun (m : PMk) (hm : m.n.length ≤ 30 ∧ m.S ≤ 4294967295) (w' : World) (b : Below w.heap.size w w') => btext_any E m w' (HLW.out.below b) (by omega) hm.2 (H5.out.below b) (H2.out.below b))
    have RT := Lib.hid (fun (m : PMk) (hm : m.n.length ≤ 30 ∧ m.S ≤ 4294967295) (w' : World) => rmarktext_any m w' (by omega) hm.2)
    simp only [PMk.val] at TX
    simp only [PMk.rval] at RT
    have CD := Lib.hid (fun (c : Nat) (h : c ≤ 12) (w' : World) (b : Below w.heap.size w w') => coded_ev E c w' (HERR.out.below b) h)
    obtain ⟨i0, hi, hz0, hz1, hz2⟩ := info_parts infoMk
    have hd2 : (¬ (150 : Int) < d.length) ∨ ((150 : Int) < d.length ∧ ((d.length : Int) != 4001) = false ∧ d.length = 4001) := by
      have e2 : (((d.length : Int) != 4001) = false) ↔ d.length = 4001 := by rw [bne_eq_false_iff_eq]; omega
      rw [e2]
      omega
    go_enter Tryz.func3, Tryz.ntmps3
    go_wp2_with fail
    refine MK.out.mono ?_
    rintro e w1 ⟨rfl, b1⟩
    go_wp2_with fail
    refine (LG.out _ b1).mono ?_
    rintro e w2 ⟨rfl, rfl⟩
    have B1 := Lib.hid b1
    clear b1 MK LG
    rcases hd2 with hd2 | ⟨hd2, hd3, hd4⟩
    all_goals
      go_wp2_with fail
      go_loopw [12, 13, 14, 15, 16, 17, 18] (fun o i _ _ _ _ _ wr => ∃ k : Nat, i = .int .i64 k ∧ k ≤ l.length ∧ wr.ownsRow w.heap.size 30 3 o k (mkcells (l.take k)) ∧ Below w.heap.size w wr) (fun _ i _ _ _ _ _ _ => l.length - (intOf i).toNat)
      case atStart => exact ⟨0, rfl, by omega, World.ownsRow_nil _ _ _ _, B1.out⟩
      case round =>
        obtain ⟨k, rfl, hk, hown, bel⟩ := hrel
        have HO := Lib.hid hown
        have BW := Lib.hid bel
        obtain ⟨va, vc, rfl⟩ := owns_slice' hown
        clear B1 bel hown
        by_cases hlt : k < l.length
        · have hltI : (k : Int) < l.length := by omega
          obtain ⟨s0', n0', c0', e1, _, _, _, g1⟩ := (hHSL.out.below BW.out).get
          cases e1
          obtain ⟨g2, g3, g4⟩ := rmkcells_get l k hlt
          obtain ⟨ad, rfl, d0⟩ := g1 _ _ g2
          obtain ⟨a', e', d1⟩ := g1 _ _ g3
          cases e'
          obtain ⟨a', e', d2⟩ := g1 _ _ g4
          cases e'
          clear g1 g2 g3 g4
          have KK := Lib.hid (show k + 1 ≤ l.length by omega)
          have x1 : (0 : Int) ≤ k := by omega
          have x2 : (k : Int).toNat = k := by omega
          have SN := Lib.hid (mk_take hlt)
          have hb := HEB.out _ (List.getElem_mem hlt)
          have TXk := Lib.hid (TX.out _ hb)
          have RTk := Lib.hid (RT.out _ hb)
          have CDk := Lib.hid (CD.out (mkC l[k]) (mkC_le _))
          have CLW : Hid (∀ w' : World, Below wr.heap.size wr w' → w'.cell? (ad.add (k * 3)) = some (.string (bs l[k].n)) ∧ w'.cell? ⟨(ad.add (k * 3)).block, (ad.add (k * 3)).off + 1, none⟩ = some (.int .i64 l[k].N) ∧ w'.cell? ⟨(ad.add (k * 3)).block, (ad.add (k * 3)).off + 2, none⟩ = some (.int .i64 l[k].S)) := Lib.hid fun w' b => by
            have hb0 := World.block_lt_of_cell? _ _ d0
            have e0 := (b.cell hb0).trans d0
            have e1 := (b.cell (show (ad.add (k * 3 + 1)).block < _ from World.block_lt_of_cell? _ _ d1)).trans d1
            have e2 := (b.cell (show (ad.add (k * 3 + 2)).block < _ from World.block_lt_of_cell? _ _ d2)).trans d2
            exact ⟨e0, cell_at e1, cell_at e2⟩
          have SS := CLW.out _ (Below.refl _ _)
          generalize l[k] = x at SS CLW SN hb TXk RTk CDk
          clear d0 d1 d2
          generalize mkX x = tx at *
          generalize mkC x = cx at *
          obtain ⟨xn, xN, xS⟩ := x
          simp only at SS CLW SN hb TXk RTk
          have hcv : IntKind.u32.wrap (xS : Int) = xS := IntWalk.u32_in _ (by omega)
          clear hb TX RT CD
          go_wp2_with fail
          go_region_held3 (fun w' => w'.cell? (ad.add (k * 3)) = some (.string (bs xn)) ∧ w'.cell? ⟨(ad.add (k * 3)).block, (ad.add (k * 3)).off + 1, none⟩ = some (.int .i64 xN) ∧ w'.cell? ⟨(ad.add (k * 3)).block, (ad.add (k * 3)).off + 2, none⟩ = some (.int .i64 xS)) (first | assumption | exact SS | exact CLW.out _ (Below.drew (wb_alloc _ _)) | exact CLW.out _ (Below.drew (below_put3 (Below.drew (wb_alloc _ _)) (Nat.le_refl _) _ _ _)) | exact CLW.out _ (below_put3 (Below.drew (wb_alloc _ _)) (Nat.le_refl _) _ _ _) | exact CLW.out _ (Below.drew (Below.refl _ _))) (fail)
          all_goals
            go_wp2_with fail
            have B8 := Lib.hid (below_trans' BW.out (Below.drew (wb_alloc wr (.cells #[.string (bs xn), .int .i64 xN, .int .u32 xS] 30))))
            have CLX := Lib.hid (fun (w' : World) (b : Below (wr.alloc (.cells #[.string (bs xn), .int .i64 xN, .int .u32 xS] 30)).drew.heap.size (wr.alloc (.cells #[.string (bs xn), .int .i64 xN, .int .u32 xS] 30)).drew w') => CLW.out w' (below_trans' (Below.drew (wb_alloc wr _)) b))
            have HX8 := Lib.hid (fun (w' : World) (b : Below (wr.alloc (.cells #[.string (bs xn), .int .i64 xN, .int .u32 xS] 30)).drew.heap.size (wr.alloc (.cells #[.string (bs xn), .int .i64 xN, .int .u32 xS] 30)).drew w') => mk_cs ((b.block wr.heap.size (by simp [World.drew])).trans (show (wr.alloc (.cells #[.string (bs xn), .int .i64 xN, .int .u32 xS] 30)).drew.heap[wr.heap.size]? = _ from heap_alloc_new wr (.cells #[.string (bs xn), .int .i64 xN, .int .u32 xS] 30))))
            have HO8 := Lib.hid (fun (w' : World) (b : Below (wr.alloc (.cells #[.string (bs xn), .int .i64 xN, .int .u32 xS] 30)).drew.heap.size (wr.alloc (.cells #[.string (bs xn), .int .i64 xN, .int .u32 xS] 30)).drew w') => owns_below (HO.out.alloc (.cells #[.string (bs xn), .int .i64 xN, .int .u32 xS] 30)).drew b)
            clear CLW HO BW SS
            generalize (wr.alloc (.cells #[.string (bs xn), .int .i64 xN, .int .u32 xS] 30)).drew = W8 at *
            refine (TXk.out _ B8.out).mono ?_
            rintro e w3 ⟨rfl, b3⟩
            have B3 := Lib.hid b3
            obtain ⟨f0, f1, f2⟩ := CLX.out _ B3.out
            clear TXk b3
            go_wp2_with fail
            refine (RTk.out _).mono ?_
            rintro e w4 ⟨rfl, b4⟩
            have B4 := Lib.hid (below_trans' B3.out b4)
            have CDW := Lib.hid (CDk.out _ (below_trans' B8.out B4.out))
            clear RTk b4 B3 CLX f0 f1 f2 CDk
            go_wp2_with fail
            refine CDW.out.mono ?_
            rintro e w5 ⟨rfl, b5⟩
            have B5 := Lib.hid (below_trans' B4.out b5)
            obtain ⟨r0, r1, r2⟩ := HX8.out _ B5.out
            have HO5 := Lib.hid (HO8.out _ B5.out)
            have BW5 := Lib.hid (below_trans' B8.out B5.out)
            have nes := ne_self (bs tx)
            have HN1 : Hid (k + 1 ≤ maxLen) := by show _ ≤ _; unfold maxLen; omega
            have HN2 : Hid ((k + 1) * 32 ≤ 140737488355328) := by show _ ≤ _; omega
            have BZ := Lib.hid BW5.out.size
            clear CDW B4 b5 HX8 HO8 B8 B5
            go_wp2_with (at_builtin; refine wpList_append_own _ rfl _ _ 25 rfl w.heap.size 30 i0 _ 3 32 Tryz.underlying25 hi hz0 hz1 hz2 rfl (by decide) _ _ _ rfl (HO5.out.alloc _) ⟨w5.heap.size, 0, none⟩ 1 1 [.string (bs xn), .int .i64 xN, .int .u32 (xS : Int)] rfl rfl (three_newsM (heap_alloc_new _ _)) (fun u hu => by simp at hu; rcases hu with rfl | rfl | rfl <;> rfl) HN1.out HN2.out (by have := BZ.out; simp; omega) ?_; intro v' w6 hown6 hgrow _; have HO6 := Lib.hid hown6; have B6 := Lib.hid ((BW5.out.alloc BZ.out _).grown hgrow (by have := BZ.out; simp; omega) (fun j hj => (HO5.out.lt j hj).1)); clear hown6 hgrow)
            go_roundw
            case rel => exact ⟨k + 1, by go_num, KK.out, by rw [SN.out]; exact HO6.out, B6.out⟩
            case measure => have := KK.out; simp [intOf]; omega
        · have hltI : ¬ (k : Int) < l.length := by omega
          obtain rfl : k = l.length := by omega
          rw [mk_all (Nat.le_refl _)] at HO
          have SLO := Lib.hid (fun (w' : World) (b : Below wr.heap.size wr w') => (SliceIs.ownedK HO.out).below b)
          have SLD := Lib.hid (fun (w' : World) (b : Below wr.heap.size wr w') => hHSL.out.below (below_trans' BW.out b))
          have BT := Lib.hid (fun (w' : World) (b : Below wr.heap.size wr w') => below_trans' BW.out b)
          have RX := Lib.hid (bread_any E s wr (HLW.out.below BW.out) (by omega) (H1.out.below BW.out) (H2.out.below BW.out) (H5.out.below BW.out))
          have RR := Lib.hid (fun w' => rreadmark_any s w' (by omega))
          have hrS := rdM_S s
          have hrC := rdM_le s
          generalize rdM s = rd at *
          obtain ⟨⟨rn, rN, rS⟩, rc⟩ := rd
          simp only [PMk.val] at RX
          simp only [PMk.rval] at RR
          simp only at hrS hrC
          have CDr := Lib.hid (CD.out rc hrC)
          have CD5 := Lib.hid (fun (w' : World) (b : Below w.heap.size w w') => show Calls Tryz.prog 12 #[ev E 5, .int .i64 5] w' fun e w'' => e = .returned (.bool true) ∧ Below w'.heap.size w' w'' from CD.out 5 (by omega) w' b)
          have CD2 := Lib.hid (fun (w' : World) (b : Below w.heap.size w w') => show Calls Tryz.prog 12 #[ev E 2, .int .i64 2] w' fun e w'' => e = .returned (.bool true) ∧ Below w'.heap.size w' w'' from CD.out 2 (by omega) w' b)
          clear HO TX RT CD hrC hHSL hi hz0 hz1 hz2
          go_wp2_with fail
          refine RX.out.mono ?_
          rintro e w3 ⟨rfl, b3⟩
          have HY := Lib.hid (heap_alloc_new w3 (.cells #[.string (bs rn), .int .i64 rN, .int .u32 rS] 30))
          have BY := Lib.hid (below_trans' b3 (wb_alloc w3 (.cells #[.string (bs rn), .int .i64 rN, .int .u32 rS] 30)))
          clear RX b3
          go_wp2_with fail
          generalize hby : w3.heap.size = by3 at *
          generalize w3.alloc (.cells #[.string (bs rn), .int .i64 rN, .int .u32 rS] 30) = w4 at *
          refine (RR.out _).mono ?_
          rintro e w5 ⟨rfl, b5⟩
          have HZ := Lib.hid (heap_alloc_new w5 (.cells #[.string (bs rn), .int .i64 rN, .int .i64 rS] 27))
          have BZ := Lib.hid (below_trans' b5 (wb_alloc w5 (.cells #[.string (bs rn), .int .i64 rN, .int .i64 rS] 27)))
          have CDw := Lib.hid (CDr.out _ (BT.out _ (below_trans' BY.out BZ.out)))
          clear RR b5
          go_wp2_with fail
          generalize hbz : w5.heap.size = bz5 at *
          generalize w5.alloc (.cells #[.string (bs rn), .int .i64 rN, .int .i64 rS] 27) = w6 at *
          refine CDw.out.mono ?_
          rintro e w7 ⟨rfl, b7⟩
          obtain ⟨p0, p1, p2⟩ := mk_cs (((below_trans' BZ.out b7).block _ (lt_of_block HY.out)).trans HY.out)
          obtain ⟨z0, z1, z2⟩ := mk_cs ((b7.block _ (lt_of_block HZ.out)).trans HZ.out)
          have B7 := Lib.hid (below_trans' BY.out (below_trans' BZ.out b7))
          have hwS : IntKind.i64.wrap (rS : Int) = rS := IntWalk.i64_in _ (by omega)
          clear CDr CDw BY BZ b7 HY HZ
          have NMi := Lib.hid (fun w' => isName_any n w' (by omega))
          by_cases hnm : nameB n = true
          · rw [hnm] at NMi
            by_cases hb : 4000 < d.length ∨ a3 < 1 ∨ 4000 < a3
            · have MS := Lib.hid (bmarks_no E n d a3 w7 (by omega) (H2.out.below (BT.out _ B7.out)) (H5.out.below (BT.out _ B7.out)) (by rw [msC_bound hnm hb]; decide))
              rw [msC_bound hnm hb] at MS
              have hor : (4000 : Int) < d.length ∨ ¬ (4000 : Int) < d.length ∧ (a3 < 1 ∨ ¬ a3 < 1 ∧ 4000 < a3) := by omega
              clear hb hnm
              rcases hor with j1 | ⟨j1, j2 | ⟨j2, j3⟩⟩
              all_goals (try (exfalso; omega))
              all_goals
                go_wp2_with fail
                refine MS.out.mono ?_
                rintro e w8 ⟨rfl, b8⟩
                have B8 := Lib.hid (BT.out _ (below_trans' B7.out b8))
                have CDv := Lib.hid (CD2.out _ B8.out)
                clear b8 MS CD2 CD5
                go_wp2_with fail
                refine (NMi.out _).mono ?_
                rintro e w9 ⟨rfl, rfl⟩
                go_wp2_with fail
                refine CDv.out.mono ?_
                rintro e wA ⟨rfl, bA⟩
                have BA := Lib.hid (below_trans' B8.out bA)
                clear bA
                go_wp2_with fail
                go_ret
                exact ⟨rfl, BA.out⟩
            · try (exfalso; omega)
              all_goals
                obtain ⟨st, rfl⟩ := Int.eq_ofNat_of_zero_le (show 0 ≤ a3 by omega)
                have hs1 : 1 ≤ st := by omega
                have hs2 : st ≤ 4000 := by omega
                have hdl : d.length ≤ 4000 := by omega
                have j1 : ¬ (4000 : Int) < d.length := by omega
                have j2 : ¬ (st : Int) < 1 := by omega
                have j3 : ¬ (4000 : Int) < st := by omega
                have MS := Lib.hid (bmarks_yes n d st w7 hnm (by omega) hdl hs1 hs2)
                have EACH := Lib.hid (fun i h => mksL_each (name := n) (data := d) (step := st) (k := d.length / st) i h)
                have LEN := mksL_len n d st (d.length / st)
                have DIV : Hid (∀ i, i < d.length / st → step_in st d.length i) := Lib.hid fun i hi => step_in_of hs1 hi
                have hq1 := tdiv_nat d.length st
                have hq2 : d.length / st ≤ d.length := Nat.div_le_self _ _
                have hq3 : ((st : Int) == 0) = false := by rw [beq_eq_false_iff_ne]; omega
                have hq4 : ((d.length / st : Nat) : Int) = (d.length : Int) / (st : Int) := Int.natCast_ediv _ _
                generalize hL : mksL n d st (d.length / st) = L at *
                rw [← LEN] at MS DIV hq2
                rw [← LEN] at hq1 hq4
                have hw9 : IntKind.i64.wrap ((d.length : Int) / (st : Int)) = (d.length : Int) / (st : Int) := by rw [← hq4]; exact IntWalk.i64_in _ (by omega)
                have hw10 : IntKind.i64.wrap (L.length : Int) = L.length := IntWalk.i64_in _ (by omega)
                have hnl : ((L.length : Int) != (L.length : Int)) = false := by simp
                have hnl2 : ((L.length : Int) != (d.length : Int) / (st : Int)) = false := by rw [← hq4]; simp
                clear hb hnm LEN CD2 CD5 hL
                go_wp2_with fail
                refine MS.out.mono ?_
                rintro e w8 ⟨r, rfl, o8, b8⟩
                obtain ⟨ra, rcap, rfl⟩ := owns_slice' o8
                have B8 := Lib.hid (below_trans' B7.out b8)
                have SK := Lib.hid (fun (w' : World) (b : Below w8.heap.size w8 w') => (SliceIs.ownedK o8).below b)
                clear b8 o8 MS
                go_wp2_with fail
                refine (NMi.out _).mono ?_
                rintro e w9 ⟨rfl, rfl⟩
                clear NMi
                have FO := Lib.hid (fun (w' : World) (b : Below wr.heap.size wr w') => bfar_any l (.slice va l.length vc) n d w' (SLO.out _ b) (by omega))
                have FR := Lib.hid (fun (w' : World) (b : Below wr.heap.size wr w') => rfar_any l (.slice s0 l.length c0) n d w' (SLD.out _ b) (by omega))
                generalize farL n d l = fl at *
                go_wp2_with fail
                go_loopw [25, 26] (fun i _ wr2 => ∃ k : Nat, i = .int .i64 k ∧ k ≤ L.length ∧ Below w9.heap.size w9 wr2) (fun i _ _ => L.length - (intOf i).toNat)
                case atStart => exact ⟨0, rfl, by omega, Below.refl _ _⟩
                case round =>
                  obtain ⟨k, rfl, hk, bk⟩ := hrel
                  have BK := Lib.hid (below_trans' B8.out bk)
                  have SR := Lib.hid (SK.out _ bk)
                  have BKR := Lib.hid bk
                  clear bk B7 B8
                  by_cases hlt : k < L.length
                  · have hltI : (k : Int) < L.length := by omega
                    have XE := EACH.out k hlt
                    obtain ⟨p1, p2⟩ := DIV.out k hlt
                    obtain ⟨_, _, _, e1, _, _, _, gk⟩ := SR.out.get
                    cases e1
                    obtain ⟨g2, g3, g4⟩ := mkcells_get L k hlt
                    obtain ⟨ad, rfl, c0⟩ := gk _ _ g2
                    obtain ⟨_, e3, c1⟩ := gk _ _ g3
                    cases e3
                    obtain ⟨_, e4, c2⟩ := gk _ _ g4
                    cases e4
                    clear gk g2 g3 g4
                    have c1 := cell_at c1
                    have c2 := cell_at c2
                    rw [XE] at c0 c1 c2
                    simp only at c0 c1 c2
                    have hmul : (st : Int) * ((k : Int) + 1) = ((st * (k + 1) : Nat) : Int) := by rw [Int.natCast_mul]; rfl
                    have hcsl := csum_lt (d.take (st * (k + 1)))
                    have SX := Lib.hid (fun (w' : World) => sumOf_any (bs (d.take (st * (k + 1)))) w' (by rw [bs_size, List.length_take]; omega))
                    rw [bs_list] at SX
                    have EXP := sub_bs d 0 (st * (k + 1))
                    rw [List.drop_zero, Nat.sub_zero] at EXP
                    generalize hP : st * (k + 1) = P at *
                    have hwP : IntKind.i64.wrap (P : Int) = P := IntWalk.i64_in _ (by omega)
                    have KK2 := Lib.hid (show k + 1 ≤ L.length from hlt)
                    have x1 : (0 : Int) ≤ k := by omega
                    have x2 : (k : Int).toNat = k := by omega
                    have z1 : (0 : Int) ≤ (P : Int) := by omega
                    have z2 : (P : Int) ≤ d.length := by omega
                    have z3 : (P : Int).toNat = P := by omega
                    clear XE hP p1 p2
                    generalize csum (d.take P) = cs at *
                    have hwc : IntKind.i64.wrap (cs : Int) = cs := IntWalk.i64_in _ (by omega)
                    go_wp2_with fail
                    go_quiet ((go_at_call 17; first | exact Calls.quiet_of_same (SX.out _) | exact quiet_left (SX.out _) | exact quiet_add_left (SX.out _)))
                    go_wp2_with fail
                    go_roundw
                    case rel => exact ⟨k + 1, by go_num, KK2.out, below_drewN BKR.out _⟩
                    case measure => simp [intOf]; omega
                  · have hltI : ¬ (k : Int) < L.length := by omega
                    clear EACH DIV SR
                    go_wp2_with fail
                    refine (FO.out _ BK.out).mono ?_
                    rintro e wX ⟨rfl, bX⟩
                    have BX := Lib.hid (below_trans' BK.out bX)
                    clear bX FO
                    go_wp2_with fail
                    refine (FR.out _ BX.out).mono ?_
                    rintro e wY ⟨rfl, bY⟩
                    have BY := Lib.hid (BT.out _ (below_trans' BX.out bY))
                    clear bY FR
                    go_wp2_with fail
                    go_ret
                    exact ⟨rfl, BY.out⟩
          · have hnm' : nameB n = false := by simpa using hnm
            rw [hnm'] at NMi
            have MS := Lib.hid (bmarks_no E n d a3 w7 (by omega) (H2.out.below (BT.out _ B7.out)) (H5.out.below (BT.out _ B7.out)) (by rw [msC_name hnm']; decide))
            rw [msC_name hnm'] at MS
            clear hnm hnm'
            go_wp2_with fail
            refine MS.out.mono ?_
            rintro e w8 ⟨rfl, b8⟩
            have B8 := Lib.hid (BT.out _ (below_trans' B7.out b8))
            have CDv := Lib.hid (CD5.out _ B8.out)
            clear b8 MS CD2 CD5
            go_wp2_with fail
            refine (NMi.out _).mono ?_
            rintro e w9 ⟨rfl, rfl⟩
            go_wp2_with fail
            refine CDv.out.mono ?_
            rintro e wA ⟨rfl, bA⟩
            have BA := Lib.hid (below_trans' B8.out bA)
            clear bA
            go_wp2_with fail
            go_ret
            exact ⟨rfl, BA.out⟩
  · exact stop hq
end Go.Proofs.YtomaojpldinmgaaGreatDoor
