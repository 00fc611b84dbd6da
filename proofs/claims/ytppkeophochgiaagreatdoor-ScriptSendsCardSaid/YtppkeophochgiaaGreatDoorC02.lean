/- What texts give besides. -/
import Derived.Test.YtppkeophochgiaaGreatDoorC01
import Derived.Test.YtppkeophochgiaaGreatDoorB03
import Derived.Handy
import Derived.Test.YtppkeophochgiaaGreatDoorB06
import Derived.Test.YtppkeophochgiaaGreatDoorB32
import Derived.Test.YtppkeophochgiaaGreatDoorB08
import Derived.Test.YtppkeophochgiaaGreatDoorB35
import Derived.Test.YtppkeophochgiaaGreatDoorB09
/- The document's Byte. -/
namespace Go.Proofs.YtppkeophochgiaaGreatDoor
open Go.RowKit
set_option linter.unusedVariables false

theorem rbyte_any (c : UInt8) (w : World) : Calls Tryz.prog 54 #[.int .i64 c.toNat] w fun e w' => e = .returned (.string (bs [c])) ∧ Below w.heap.size w w' := by
  have hc := c.toNat_lt
  have CV := fun (w' : World) => conv_one (P := Tryz.prog) w' 107 9 5 Tryz.underlying107 Tryz.underlying5 Tryz.underlying9 w.heap.size 1 c
  have HCV := Lib.hid (CV (w.alloc (.cells #[.int .u8 c.toNat] 5)) (by simp))
  have hcv := HCV.out
  have HB := Lib.hid (show bs [c] = ⟨#[c]⟩ by unfold bs; rfl)
  have x1 : (c.toNat : Int) < 256 := by omega
  clear CV HCV
  go_enter Tryz.func54, Tryz.ntmps54
  go_wp2_with fail
  go_ret
  exact ⟨by rw [HB.out]; rfl, (Below.refl _ w).alloc (Nat.le_refl _) _⟩
end Go.Proofs.YtppkeophochgiaaGreatDoor
/- The document's Decimal (a number from 0), and Record. -/
namespace Go.Proofs.YtppkeophochgiaaGreatDoor
open Go.RowKit
set_option linter.unusedVariables false

theorem rbyte_of (c : UInt8) (v : Int) (hv : v = c.toNat) (w : World) : Calls Tryz.prog 54 #[.int .i64 v] w fun e w' => e = .returned (.string (bs [c])) ∧ Below w.heap.size w w' := by
  subst hv; exact rbyte_any c w
theorem dig_at {k : Nat} (h : k < 10) : (48 : Int) + k = ((UInt8.ofNat (48 + k)).toNat : Int) := by
  rw [UInt8.toNat_ofNat']; omega
theorem tdiv_neg10 (n : Nat) : (-(n : Int)).tdiv 10 = -((n / 10 : Nat) : Int) := by
  rw [Int.neg_tdiv]; rfl
theorem tmod_neg10 (n : Nat) : (-(n : Int)).tmod 10 = -((n % 10 : Nat) : Int) := by
  rw [Int.neg_tmod]; rfl
set_option maxRecDepth 100000 in
set_option maxHeartbeats 1600000 in
theorem rbelow_any (n : Nat) : ∀ (z : Int) (w : World), z = -(n : Int) → n ≤ 1000000000000000000 → Calls Tryz.prog 25 #[.int .i64 z] w fun e w' => e = .returned (.string (bs (Lib.decDigits n))) ∧ Below w.heap.size w w' := by
  induction n using Nat.strongRecOn with
  | _ n ih =>
    intro z w hz hn
    by_cases h9 : n < 10
    · have RB := Lib.hid (fun w' => rbyte_of (UInt8.ofNat (48 + n)) (48 - z) (by rw [← dig_at h9]; omega) w')
      have HD := Lib.hid (dec_small h9)
      have hI : (-10 : Int) < z := by omega
      have hI2 : z ≤ 0 := by omega
      clear ih hz hn h9
      generalize UInt8.ofNat (48 + n) = c at *
      go_enter Tryz.func25, Tryz.ntmps25
      go_wp2_with fail
      refine (RB.out _).mono ?_
      rintro e w1 ⟨rfl, b1⟩
      go_wp2_with fail
      go_ret
      exact ⟨by rw [HD.out]; rfl, b1⟩
    · have hI : ¬ (-10 : Int) < z := by omega
      have hlo : -1000000000000000000 ≤ z := by omega
      have hI2 : z ≤ -10 := by omega
      have hd := dec_big h9
      have h10 : n % 10 < 10 := by omega
      obtain ⟨q, hq⟩ : ∃ q, q = z.tdiv 10 := ⟨_, rfl⟩
      obtain ⟨r, hr⟩ : ∃ r, r = z.tmod 10 := ⟨_, rfl⟩
      have hq2 : q = -((n / 10 : Nat) : Int) := by rw [hq, hz]; exact tdiv_neg10 n
      have hr2 : r = -((n % 10 : Nat) : Int) := by rw [hr, hz]; exact tmod_neg10 n
      have BL := Lib.hid (fun w' => ih (n / 10) (by omega) q w' hq2 (by omega))
      have RB := Lib.hid (fun w' => rbyte_of (UInt8.ofNat (48 + n % 10)) (48 - r) (by rw [← dig_at h10]; omega) w')
      have hr3 : -9 ≤ r ∧ r ≤ 0 := by omega
      obtain ⟨hr4, hr5⟩ := hr3
      have hw1 : IntKind.i64.wrap q = q := IntWalk.i64_in _ (by omega)
      have hw2 : IntKind.i64.wrap r = r := IntWalk.i64_in _ (by omega)
      have hw3 : IntKind.i64.wrap (48 - r) = 48 - r := IntWalk.i64_in _ (by omega)
      have hq' := hq.symm
      have hr' := hr.symm
      have HD := Lib.hid hd
      have hl1 := dec_len_le (n := n / 10) (k := 18) (by omega)
      have hcat : ¬ 9223372036854775807 < (Lib.decDigits (n / 10)).length + 1 := by omega
      clear ih hz hn h9 hd hq2 hr2 h10 hq hr hl1
      generalize Lib.decDigits (n / 10) = dl at *
      generalize UInt8.ofNat (48 + n % 10) = c at *
      go_enter Tryz.func25, Tryz.ntmps25
      go_wp2_with fail
      refine (BL.out _).mono ?_
      rintro e w1 ⟨rfl, b1⟩
      go_wp2_with fail
      refine (RB.out _).mono ?_
      rintro e w2 ⟨rfl, b2⟩
      have b12 := below_trans' b1 b2
      go_wp2_with fail
      go_ret
      exact ⟨by rw [HD.out]; first | rfl | (rw [bs_add]; rfl), b12⟩
theorem rdecimal_any (n : Nat) (w : World) (h : n ≤ 1000000000000000000) : Calls Tryz.prog 14 #[.int .i64 n] w fun e w' => e = .returned (.string (bs (Lib.decDigits n))) ∧ Below w.heap.size w w' := by
  have BL := Lib.hid (fun w' => rbelow_any n (-(n : Int)) w' rfl h)
  have hI : ¬ (n : Int) < 0 := by omega
  have hw1 : IntKind.i64.wrap (-(n : Int)) = -(n : Int) := IntWalk.i64_in _ (by omega)
  go_enter Tryz.func14, Tryz.ntmps14
  go_wp2_with fail
  refine (BL.out _).mono ?_
  rintro e w1 ⟨rfl, b1⟩
  go_wp2_with fail
  go_ret
  exact ⟨rfl, b1⟩
end Go.Proofs.YtppkeophochgiaaGreatDoor

/- Cuts and bytes of a text. -/
namespace Go.Proofs.YtppkeophochgiaaGreatDoor
open Go.RowKit
set_option linter.unusedVariables false
theorem sub_bs (b : List UInt8) (i k : Nat) : (bs b).extract i k = bs ((b.drop i).take (k - i)) := by
  apply eq_bs
  rw [Lib.extract_data, bs_list]
theorem bs_get (b : List UInt8) (k : Nat) (h : k < (bs b).size) : b[k]? = some ((bs b)[k]'h) := by
  have := get_bs (bs b) k h
  rwa [bs_list] at this
end Go.Proofs.YtppkeophochgiaaGreatDoor
/- Rows of texts. -/
namespace Go.Proofs.YtppkeophochgiaaGreatDoor
open Go.RowKit
set_option linter.unusedVariables false
end Go.Proofs.YtppkeophochgiaaGreatDoor

/- The document's Cut: a text cut at each byte of a kind. -/
namespace Go.Proofs.YtppkeophochgiaaGreatDoor
open Go.RowKit
set_option linter.unusedVariables false

theorem cut_yes {c : UInt8} {l : List UInt8} {done : List (List UInt8)} {f i : Nat} (hg : l[i]? = some c) (h : splC c l = done ++ ((l.drop f).take (i - f) ++ (splH c (l.drop i)).1) :: (splH c (l.drop i)).2) :
    splC c l = (done ++ [(l.drop f).take (i - f)]) ++ ((l.drop (i + 1)).take (i + 1 - (i + 1)) ++ (splH c (l.drop (i + 1))).1) :: (splH c (l.drop (i + 1))).2 := by
  obtain ⟨hl, e⟩ := List.getElem?_eq_some_iff.1 hg
  rw [h, List.drop_eq_getElem_cons hl, e, splH_yes]
  simp
theorem cut_no {b c : UInt8} {l : List UInt8} {done : List (List UInt8)} {f i : Nat} (hb : b ≠ c) (hf : f ≤ i) (hg : l[i]? = some b) (h : splC c l = done ++ ((l.drop f).take (i - f) ++ (splH c (l.drop i)).1) :: (splH c (l.drop i)).2) :
    splC c l = done ++ ((l.drop f).take (i + 1 - f) ++ (splH c (l.drop (i + 1))).1) :: (splH c (l.drop (i + 1))).2 := by
  obtain ⟨hl, e⟩ := List.getElem?_eq_some_iff.1 hg
  have e2 : (l.drop f).take (i + 1 - f) = (l.drop f).take (i - f) ++ [b] := by
    rw [show i + 1 - f = (i - f) + 1 by omega, List.take_succ_eq_append_getElem (by rw [List.length_drop]; omega), List.getElem_drop]
    congr 2
    rw [← e]
    congr 1
    omega
  rw [h, List.drop_eq_getElem_cons hl, e, splH_no hb, e2]
  simp
theorem cut_end {c : UInt8} {l : List UInt8} {done : List (List UInt8)} {f i : Nat} (hi : l.length ≤ i) (h : splC c l = done ++ ((l.drop f).take (i - f) ++ (splH c (l.drop i)).1) :: (splH c (l.drop i)).2) :
    splC c l = done ++ [l.drop f] := by
  rw [h, List.drop_of_length_le hi, List.take_of_length_le (by rw [List.length_drop]; omega)]
  simp [splH]
attribute [local irreducible] splC splH
set_option maxRecDepth 100000 in
set_option maxHeartbeats 6400000 in
theorem rcut_any (c : UInt8) (z : Int) (hz : z = c.toNat) (b : List UInt8) (w : World) (hb : b.length ≤ 1000000000) :
    Calls Tryz.prog 15 #[.string (bs b), .int .u8 z] w fun e w' => ∃ v, e = .returned v ∧ w'.ownsRow w.heap.size 9 1 v (splC c b).length (strV (splC c b)) ∧ Below w.heap.size w w' := by
  obtain ⟨i0, hi, hz0, hz1, hz2⟩ := info_parts infoStr
  have hsz : (bs b).size = b.length := bs_size b
  have HGET := Lib.hid (fun k h => bs_get b k h)
  have GV : Hid (∀ (k : Nat) (h : k < (bs b).size), ((bs b)[k]'h).toNat < 256) := fun k h => ((bs b)[k]'h).toNat_lt
  have SUB := Lib.hid (fun i k => sub_bs b i k)
  have HLB := Lib.hid (show b.length ≤ 1000000000 from hb)
  have CY := Lib.hid (fun (done : List (List UInt8)) (f i : Nat) => cut_yes (c := c) (l := b) (done := done) (f := f) (i := i))
  have CN := Lib.hid (fun (x : UInt8) (done : List (List UInt8)) (f i : Nat) => cut_no (b := x) (c := c) (l := b) (done := done) (f := f) (i := i))
  have CE := Lib.hid (fun (done : List (List UInt8)) (f i : Nat) => cut_end (c := c) (l := b) (done := done) (f := f) (i := i))
  have HZ0 : Hid (splC c b = [] ++ ((b.drop 0).take (0 - 0) ++ (splH c (b.drop 0)).1) :: (splH c (b.drop 0)).2) := Lib.hid (by unfold splC; simp)
  subst hz
  generalize splC c b = R at *
  go_enter Tryz.func15, Tryz.ntmps15
  go_wp2_with fail
  go_loopw [5, 6, 7] (fun o f i wr => ∃ (n m : Nat) (done : List (List UInt8)), i = .int .i64 n ∧ f = .int .i64 m ∧ n ≤ b.length ∧ m ≤ n ∧ done.length ≤ n ∧ wr.ownsRow w.heap.size 9 1 o done.length (strV done) ∧ R = done ++ ((b.drop m).take (n - m) ++ (splH c (b.drop n)).1) :: (splH c (b.drop n)).2 ∧ Below w.heap.size w wr) (fun _ _ i _ => b.length - (intOf i).toNat)
  case atStart => exact ⟨0, 0, [], rfl, rfl, by omega, by omega, by simp, World.ownsRow_nil _ _ _ _, HZ0.out, Below.refl _ _⟩
  case round =>
    obtain ⟨n, m, done, rfl, rfl, hn, hm, hdn, hown, hR, bel⟩ := hrel
    have HR := Lib.hid hR
    have HO := Lib.hid hown
    have BW := Lib.hid bel
    have BS := Lib.hid bel.size
    obtain ⟨va, vc, rfl⟩ := owns_slice hown
    have hn64 : n ≤ 1000000000 := by omega
    have hm64 : m ≤ 1000000000 := by omega
    have HN1 : Hid (done.length + 1 ≤ maxLen) := by show _ ≤ _; unfold maxLen; omega
    have HN2 : Hid ((done.length + 1) * 16 ≤ 140737488355328) := by show _ ≤ _; omega
    clear hR bel hown HZ0
    have x1 : (0 : Int) ≤ n := by omega
    have y1 : (0 : Int) ≤ m := by omega
    have y2 : (m : Int) ≤ n := by omega
    by_cases hlt : n < b.length
    · have hltI : (n : Int) < b.length := by omega
      have y3 : (n : Int) ≤ b.length := by omega
      have hjs : n < (bs b).size := by omega
      have hg := HGET.out n hjs
      have hcv := GV.out n hjs
      have KK := Lib.hid (show n + 1 ≤ b.length ∧ done.length + 1 ≤ n + 1 ∧ m ≤ n + 1 ∧ done.length ≤ n + 1 by omega)
      by_cases hc : ((bs b)[n]'hjs) = c
      · have hcE : ((((bs b)[n]'hjs).toNat : Int) == (c.toNat : Int)) = true := by rw [hc]; simp
        have EX := SUB.out m n
        have NX := Lib.hid (CY.out done m n (by rw [hg, hc]) HR.out)
        have hc256 : c.toNat < 256 := c.toNat_lt
        clear hc hg HR CY CN CE hdn
        generalize (b.drop m).take (n - m) = s at *
        go_wp2_with (at_builtin; refine wpList_append_own _ rfl _ _ 22 rfl w.heap.size 9 i0 _ 1 16 Tryz.underlying22 hi hz0 hz1 hz2 rfl (by decide) _ _ _ rfl (HO.out.alloc _) ⟨wr.heap.size, 0, none⟩ 1 1 [.string (bs s)] rfl rfl (one_news (by simp)) (one_cell rfl) HN1.out HN2.out (by have := BS.out; simp; omega) ?_; intro v' w5 hown5 hgrow _; have HO5 := Lib.hid hown5; have B5 := Lib.hid ((BW.out.alloc BS.out _).grown hgrow (by have := BS.out; simp; omega) (fun j hj => (HO.out.lt j hj).1)); clear hown5 hgrow)
        go_roundw
        case rel => exact ⟨n + 1, n + 1, done ++ [s], by go_num, by go_num, KK.out.1, by omega, by simpa using KK.out.2.1, by rw [strV_snoc, List.length_append]; exact HO5.out, NX.out, B5.out⟩
        case measure => have := KK.out; simp [intOf]; omega
      · have hc256 : c.toNat < 256 := c.toNat_lt
        have hcE : ((((bs b)[n]'hjs).toNat : Int) == (c.toNat : Int)) = false := by
          rw [beq_eq_false_iff_ne]
          intro e
          exact hc (UInt8.toNat_inj.1 (by omega))
        have NX := Lib.hid (CN.out _ done m n hc hm hg HR.out)
        clear hc hg HR CY CN CE hdn
        go_wp2_with fail
        go_roundw
        case rel => exact ⟨n + 1, m, done, by go_num, rfl, KK.out.1, KK.out.2.2.1, KK.out.2.2.2, HO.out, NX.out, BW.out⟩
        case measure => have := KK.out; simp [intOf]; omega
    · have hltI : ¬ (n : Int) < b.length := by omega
      have y3 : (m : Int) ≤ b.length := by omega
      have EX := SUB.out m b.length
      have EQ : (b.drop m).take (b.length - m) = b.drop m := List.take_of_length_le (by rw [List.length_drop]; omega)
      rw [EQ] at EX
      have NX := Lib.hid (CE.out done m n (by omega) HR.out)
      clear HR CY CN CE hdn EQ
      generalize b.drop m = s at *
      go_wp2_with (at_builtin; refine wpList_append_own _ rfl _ _ 22 rfl w.heap.size 9 i0 _ 1 16 Tryz.underlying22 hi hz0 hz1 hz2 rfl (by decide) _ _ _ rfl (HO.out.alloc _) ⟨wr.heap.size, 0, none⟩ 1 1 [.string (bs s)] rfl rfl (one_news (by simp)) (one_cell rfl) HN1.out HN2.out (by have := BS.out; simp; omega) ?_; intro v' w5 hown5 hgrow _; have HO5 := Lib.hid hown5; have B5 := Lib.hid ((BW.out.alloc BS.out _).grown hgrow (by have := BS.out; simp; omega) (fun j hj => (HO.out.lt j hj).1)); clear hown5 hgrow)
      go_ret
      rw [NX.out]
      exact ⟨_, rfl, by rw [strV_snoc, List.length_append]; exact HO5.out, B5.out⟩
end Go.Proofs.YtppkeophochgiaaGreatDoor
