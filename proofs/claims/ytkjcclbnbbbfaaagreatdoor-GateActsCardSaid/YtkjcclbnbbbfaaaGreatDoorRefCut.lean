/- The document's Cut: a text cut at each byte of a kind. -/
import Derived.Test.YtkjcclbnbbbfaaaGreatDoorSubBs
import Derived.Test.YtkjcclbnbbbfaaaGreatDoorChg
import Derived.Test.YtkjcclbnbbbfaaaGreatDoorSplitPlain
namespace Go.Proofs.YtkjcclbnbbbfaaaGreatDoor
open Go.RowKit
set_option linter.unusedVariables false

theorem cut_yes {c : UInt8} {l : List UInt8} {done : List (List UInt8)} {f i : Nat} (hg : l[i]? = some c) (h : splC c l = done ++ ((l.drop f).take (i - f) ++ (splH c (l.drop i)).1) :: (splH c (l.drop i)).2) :
    splC c l = (done ++ [(l.drop f).take (i - f)]) ++ ((l.drop (i + 1)).take (i + 1 - (i + 1)) ++ (splH c (l.drop (i + 1))).1) :: (splH c (l.drop (i + 1))).2 := by
  obtain ⟨hl, e⟩ := List.getElem?_eq_some_iff.1 hg
  rw [h, List.drop_eq_getElem_cons hl, e, splH_yes]
  simp
theorem cut_no {b c : UInt8} {l : List UInt8} {done : List (List UInt8)} {f i : Nat} (hb : b ≠ c) (hf : f ≤ i) (hg : l[i]? = some b) (h : splC c l = done ++ ((l.drop f).take (i - f) ++ (splH c (l.drop i)).1) :: (splH c (l.drop i)).2) :
    splC c l = done ++ ((l.drop f).take (i + 1 - f) ++ (splH c (l.drop (i + 1))).1) :: (splH c (l.drop (i + 1))).2 := by
  obtain ⟨hl, e⟩ := List.getElem?_eq_some_iff.1 hg
  have e2 : (l.drop f).take (i + 1 - f) = (l.drop f).take (i - f) ++ [b] := by
    rw [show i + 1 - f = (i - f) + 1 by omega, List.take_succ_eq_append_getElem (by rw [List.length_drop]; omega), List.getElem_drop]
    congr 2
    rw [← e]
    congr 1
    omega
  rw [h, List.drop_eq_getElem_cons hl, e, splH_no hb, e2]
  simp
theorem cut_end {c : UInt8} {l : List UInt8} {done : List (List UInt8)} {f i : Nat} (hi : l.length ≤ i) (h : splC c l = done ++ ((l.drop f).take (i - f) ++ (splH c (l.drop i)).1) :: (splH c (l.drop i)).2) :
    splC c l = done ++ [l.drop f] := by
  rw [h, List.drop_of_length_le hi, List.take_of_length_le (by rw [List.length_drop]; omega)]
  simp [splH]
attribute [local irreducible] splC splH
set_option maxRecDepth 100000 in
set_option maxHeartbeats 6400000 in
theorem rcut_any (c : UInt8) (z : Int) (hz : z = c.toNat) (b : List UInt8) (w : World) (hb : b.length ≤ 1000000000) :
    Calls Tryz.prog 59 #[.string (bs b), .int .u8 z] w fun e w' => ∃ v, e = .returned v ∧ w'.ownsRow w.heap.size 9 1 v (splC c b).length (strV (splC c b)) ∧ Below w.heap.size w w' := by
  obtain ⟨i0, hi, hz0, hz1, hz2⟩ := info_parts infoStr
  have hsz : (bs b).size = b.length := bs_size b
  have HGET := Lib.hid (fun k h => bs_get b k h)
  have GV : Hid (∀ (k : Nat) (h : k < (bs b).size), ((bs b)[k]'h).toNat < 256) := fun k h => ((bs b)[k]'h).toNat_lt
  have SUB := Lib.hid (fun i k => sub_bs b i k)
  have HLB := Lib.hid (show b.length ≤ 1000000000 from hb)
  have CY := Lib.hid (fun (done : List (List UInt8)) (f i : Nat) => cut_yes (c := c) (l := b) (done := done) (f := f) (i := i))
  have CN := Lib.hid (fun (x : UInt8) (done : List (List UInt8)) (f i : Nat) => cut_no (b := x) (c := c) (l := b) (done := done) (f := f) (i := i))
  have CE := Lib.hid (fun (done : List (List UInt8)) (f i : Nat) => cut_end (c := c) (l := b) (done := done) (f := f) (i := i))
  have HZ0 : Hid (splC c b = [] ++ ((b.drop 0).take (0 - 0) ++ (splH c (b.drop 0)).1) :: (splH c (b.drop 0)).2) := Lib.hid (by unfold splC; simp)
  subst hz
  generalize splC c b = R at *
  go_enter Tryz.func59, Tryz.ntmps59
  go_wp2_with fail
  go_loopw [5, 6, 7] (fun o f i wr => ∃ (n m : Nat) (done : List (List UInt8)), i = .int .i64 n ∧ f = .int .i64 m ∧ n ≤ b.length ∧ m ≤ n ∧ done.length ≤ n ∧ wr.ownsRow w.heap.size 9 1 o done.length (strV done) ∧ R = done ++ ((b.drop m).take (n - m) ++ (splH c (b.drop n)).1) :: (splH c (b.drop n)).2 ∧ Below w.heap.size w wr) (fun _ _ i _ => b.length - (intOf i).toNat)
  case atStart => exact ⟨0, 0, [], rfl, rfl, by omega, by omega, by simp, World.ownsRow_nil _ _ _ _, HZ0.out, Below.refl _ _⟩
  case round =>
    obtain ⟨n, m, done, rfl, rfl, hn, hm, hdn, hown, hR, bel⟩ := hrel
    have HR := Lib.hid hR
    have HO := Lib.hid hown
    have BW := Lib.hid bel
    have BS := Lib.hid bel.size
    obtain ⟨va, vc, rfl⟩ := owns_slice hown
    have hn64 : n ≤ 1000000000 := by omega
    have hm64 : m ≤ 1000000000 := by omega
    have HN1 : Hid (done.length + 1 ≤ maxLen) := by show _ ≤ _; unfold maxLen; omega
    have HN2 : Hid ((done.length + 1) * 16 ≤ 140737488355328) := by show _ ≤ _; omega
    clear hR bel hown HZ0
    have x1 : (0 : Int) ≤ n := by omega
    have y1 : (0 : Int) ≤ m := by omega
    have y2 : (m : Int) ≤ n := by omega
    by_cases hlt : n < b.length
    · have hltI : (n : Int) < b.length := by omega
      have y3 : (n : Int) ≤ b.length := by omega
      have hjs : n < (bs b).size := by omega
      have hg := HGET.out n hjs
      have hcv := GV.out n hjs
      have KK := Lib.hid (show n + 1 ≤ b.length ∧ done.length + 1 ≤ n + 1 ∧ m ≤ n + 1 ∧ done.length ≤ n + 1 by omega)
      by_cases hc : ((bs b)[n]'hjs) = c
      · have hcE : ((((bs b)[n]'hjs).toNat : Int) == (c.toNat : Int)) = true := by rw [hc]; simp
        have EX := SUB.out m n
        have NX := Lib.hid (CY.out done m n (by rw [hg, hc]) HR.out)
        have hc256 : c.toNat < 256 := c.toNat_lt
        clear hc hg HR CY CN CE hdn
        generalize (b.drop m).take (n - m) = s at *
        go_wp2_with (at_builtin; refine wpList_append_own _ rfl _ _ 48 rfl w.heap.size 9 i0 _ 1 16 Tryz.underlying48 hi hz0 hz1 hz2 rfl (by decide) _ _ _ rfl (HO.out.alloc _) ⟨wr.heap.size, 0, none⟩ 1 1 [.string (bs s)] rfl rfl (one_news (by simp)) (one_cell rfl) HN1.out HN2.out (by have := BS.out; simp; omega) ?_; intro v' w5 hown5 hgrow _; have HO5 := Lib.hid hown5; have B5 := Lib.hid ((BW.out.alloc BS.out _).grown hgrow (by have := BS.out; simp; omega) (fun j hj => (HO.out.lt j hj).1)); clear hown5 hgrow)
        go_roundw
        case rel => exact ⟨n + 1, n + 1, done ++ [s], by go_num, by go_num, KK.out.1, by omega, by simpa using KK.out.2.1, by rw [strV_snoc, List.length_append]; exact HO5.out, NX.out, B5.out⟩
        case measure => have := KK.out; simp [intOf]; omega
      · have hc256 : c.toNat < 256 := c.toNat_lt
        have hcE : ((((bs b)[n]'hjs).toNat : Int) == (c.toNat : Int)) = false := by
          rw [beq_eq_false_iff_ne]
          intro e
          exact hc (UInt8.toNat_inj.1 (by omega))
        have NX := Lib.hid (CN.out _ done m n hc hm hg HR.out)
        clear hc hg HR CY CN CE hdn
        go_wp2_with fail
        go_roundw
        case rel => exact ⟨n + 1, m, done, by go_num, rfl, KK.out.1, KK.out.2.2.1, KK.out.2.2.2, HO.out, NX.out, BW.out⟩
        case measure => have := KK.out; simp [intOf]; omega
    · have hltI : ¬ (n : Int) < b.length := by omega
      have y3 : (m : Int) ≤ b.length := by omega
      have EX := SUB.out m b.length
      have EQ : (b.drop m).take (b.length - m) = b.drop m := List.take_of_length_le (by rw [List.length_drop]; omega)
      rw [EQ] at EX
      have NX := Lib.hid (CE.out done m n (by omega) HR.out)
      clear HR CY CN CE hdn EQ
      generalize b.drop m = s at *
      go_wp2_with (at_builtin; refine wpList_append_own _ rfl _ _ 48 rfl w.heap.size 9 i0 _ 1 16 Tryz.underlying48 hi hz0 hz1 hz2 rfl (by decide) _ _ _ rfl (HO.out.alloc _) ⟨wr.heap.size, 0, none⟩ 1 1 [.string (bs s)] rfl rfl (one_news (by simp)) (one_cell rfl) HN1.out HN2.out (by have := BS.out; simp; omega) ?_; intro v' w5 hown5 hgrow _; have HO5 := Lib.hid hown5; have B5 := Lib.hid ((BW.out.alloc BS.out _).grown hgrow (by have := BS.out; simp; omega) (fun j hj => (HO.out.lt j hj).1)); clear hown5 hgrow)
      go_ret
      rw [NX.out]
      exact ⟨_, rfl, by rw [strV_snoc, List.length_append]; exact HO5.out, B5.out⟩
end Go.Proofs.YtkjcclbnbbbfaaaGreatDoor
