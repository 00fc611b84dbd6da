/- The document's ReadTape. -/
import Derived.Test.YtomaojpldinmgaaDoorRefNmb
import Derived.Test.YtomaojpldinmgaaDoorRefDec
import Derived.Test.YtomaojpldinmgaaDoorTapRead
namespace Go.Proofs.YtomaojpldinmgaaDoor
open Go.RowKit
set_option linter.unusedVariables false

theorem one_none_num {b : List UInt8} {p : List UInt8 × List UInt8} (h : cutC 58 b = some p) (hn : nmZ 9 p.1 < 0) : oneL b = none := by
  refine one_num h ?_
  cases e : nmL 9 p.1 with
  | none => rfl
  | some n => rw [nmZ_some e] at hn; omega
theorem nmZ_pos {most : Nat} {d : List UInt8} (h : 0 ≤ nmZ most d) : nmL most d = some (nmZ most d).toNat := by
  cases e : nmL most d with
  | none => rw [nmZ_none e] at h; omega
  | some n => rw [nmZ_some e]; simp
/-- the two bytes behind a record's text -/
theorem two_at {b : List UInt8} {k n : Nat} {c d : UInt8} (h1 : b[k + 1 + n]? = some c) (h2 : b[k + 2 + n]? = some d) : ((b.drop (k + 1)).drop n).take 2 = [c, d] := by
  have e1 : (b.drop (k + 1)).drop n = b.drop (k + 1 + n) := by rw [List.drop_drop]
  have l1 := (List.getElem?_eq_some_iff.1 h1).1
  have l2 := (List.getElem?_eq_some_iff.1 h2).1
  rw [e1, List.drop_eq_getElem_cons l1, List.take_succ_cons, (List.getElem?_eq_some_iff.1 h1).2]
  rw [List.drop_eq_getElem_cons (show k + 1 + n + 1 < b.length by omega), List.take_succ_cons, List.take_zero]
  have e2 : b[k + 1 + n + 1]? = some d := by rw [← h2]; congr 1; omega
  rw [(List.getElem?_eq_some_iff.1 e2).2]
theorem sub_bs (b : List UInt8) (i k : Nat) : (bs b).extract i k = bs ((b.drop i).take (k - i)) := by
  apply eq_bs
  rw [Lib.extract_data, bs_list]
theorem bs_get (b : List UInt8) (k : Nat) (h : k < (bs b).size) : b[k]? = some ((bs b)[k]'h) := by
  have := get_bs (bs b) k h
  rwa [bs_list] at this
attribute [local irreducible] recL oneL readL nmL nmZ
set_option maxRecDepth 100000 in
set_option maxHeartbeats 12800000 in
theorem rreadtape_any (b : List UInt8) (w : World) (hb : b.length ≤ 1000000000) :
    Calls Tryd.prog 19 #[.string (bs b)] w fun e w' => ∃ v, e = .returned (.tuple #[v, .int .i64 ((readL b).2 : Nat)]) ∧ w'.ownsRow w.heap.size 9 1 v (readL b).1.length (strV (readL b).1) ∧ Below w.heap.size w w' := by
  have NB := Lib.hid (fun (s : List UInt8) (hs : s.length ≤ b.length) (w' : World) => numberOf_any (bs s) 9 w' (by decide) (by rw [bs_size]; omega))
  obtain ⟨i0, hi, hz0, hz1, hz2⟩ := info_parts infoStr
  have hsz : (bs b).size = b.length := bs_size b
  have HGET := Lib.hid (fun k h => bs_get b k h)
  have GV : Hid (∀ (k : Nat) (h : k < (bs b).size), ((bs b)[k]'h).toNat < 256) := fun k h => ((bs b)[k]'h).toNat_lt
  have SUB := Lib.hid (fun i k => sub_bs b i k)
  have HLB := Lib.hid (show b.length ≤ 1000000000 from hb)
  go_enter Tryd.func19, Tryd.ntmps19
  go_wp2_with fail
  go_loopw [2, 3, 4, 5, 6, 7, 8] (fun _ _ o i _ _ _ wr => ∃ (n : Nat) (done : List (List UInt8)), i = .int .i64 n ∧ n ≤ b.length ∧ done.length ≤ n ∧ wr.ownsRow w.heap.size 9 1 o done.length (strV done) ∧ readL b = (done ++ (readL (b.drop n)).1, n + (readL (b.drop n)).2) ∧ Below w.heap.size w wr) (fun _ _ _ i _ _ _ _ => b.length - (intOf i).toNat)
  case atStart => exact ⟨0, [], rfl, by omega, by simp, World.ownsRow_nil _ _ _ _, by simp, Below.refl _ _⟩
  case round =>
    obtain ⟨n, done, rfl, hn, hdn, hown, hread, bel⟩ := hrel
    have HR := Lib.hid hread
    have HO := Lib.hid hown
    have BW := Lib.hid bel
    have HD := Lib.hid hdn
    obtain ⟨va, vc, rfl⟩ := owns_slice hown
    have hn64 : n ≤ 1000000000 := by omega
    clear hread bel hown hdn
    go_wp2_with fail
    go_loopw [6] (fun k wr' => ∃ j : Nat, k = .int .i64 j ∧ n ≤ j ∧ j ≤ b.length ∧ (∀ i, n ≤ i → i < j → b[i]? ≠ some 58) ∧ wr' = wr) (fun k _ => b.length - (intOf k).toNat)
    case atStart => exact ⟨n, rfl, by omega, hn, fun i h1 h2 => by omega, rfl⟩
    case round =>
      obtain ⟨j, rfl, hnj, hj, hno, rfl⟩ := hrel
      have HNO := Lib.hid hno
      have x1 : (0 : Int) ≤ j := by omega
      clear hno
      by_cases hlt : j < b.length
      · have hltI : (j : Int) < b.length := by omega
        have hltS : (j : Int) < (bs b).size := by omega
        have hjs : j < (bs b).size := by omega
        have hg := HGET.out j hjs
        have hcv := GV.out j hjs
        by_cases hc : ((bs b)[j]'hjs) = 58
        · -- a colon
          have hcI : ((((bs b)[j]'hjs).toNat : Int) != 58) = false := by rw [hc]; rfl
          have hcE : ((((bs b)[j]'hjs).toNat : Int) == 58) = true := by rw [hc]; rfl
          have CUT := Lib.hid (cut_some_of HNO.out hnj (by rw [hg, hc]))
          have hjl : ((j : Int) == b.length) = false := by rw [beq_eq_false_iff_ne]; omega
          have y1 : (0 : Int) ≤ n := by omega
          have y2 : (n : Int) ≤ j := by omega
          have y3 : (j : Int) ≤ b.length := by omega
          have EX := SUB.out n j
          have NB1 := Lib.hid (NB.out ((b.drop n).take (j - n)) (by simp; omega))
          rw [bs_list] at NB1
          have ZB := nmZ_bd (most := 9) (d := (b.drop n).take (j - n)) (by decide)
          have ZN := Lib.hid (fun h => one_none_num CUT.out h)
          have ZP := Lib.hid (fun h => one_if CUT.out (nmZ_pos h))
          simp only at ZN ZP
          have REC : Hid (∀ (m : Nat) (s : List UInt8), nmZ 9 ((b.drop n).take (j - n)) = m → s.length = m → (recL s).length = (j - n) + m + 3) := Lib.hid fun m s h hs => by
            have h1 := nmZ_pos (show 0 ≤ nmZ 9 ((b.drop n).take (j - n)) by omega)
            rw [h, Int.toNat_natCast] at h1
            have h2 := congrArg List.length (nm_some h1).2
            rw [List.length_take, List.length_drop] at h2
            rw [recL_len, hs]
            omega
          obtain ⟨zl, zh⟩ := ZB
          generalize nmZ 9 ((b.drop n).take (j - n)) = z at *
          generalize (b.drop n).take (j - n) = d at *
          have DONE : Hid (oneL (b.drop n) = none → readL b = (done, n)) := Lib.hid fun h => by
            have := HR.out
            rw [readL_none h] at this
            simpa using this
          clear hc hg hcv HNO CUT NB
          go_wp2_with fail
          refine (NB1.out _).mono ?_
          rintro e w1 ⟨rfl, rfl⟩
          clear EX NB1
          by_cases hz : z < 0
          · have D := Lib.hid (DONE.out (ZN.out hz))
            go_wp2_with fail
            go_ret2
            rw [D.out]
            exact ⟨_, rfl, HO.out, BW.out⟩
          · obtain ⟨m, rfl⟩ := Int.eq_ofNat_of_zero_le (show 0 ≤ z by omega)
            have IF := Lib.hid (ZP.out (by omega))
            rw [Int.toNat_natCast] at IF
            clear ZN ZP
            by_cases hm : m ≤ 20000
            · have hmI : ¬ (20000 : Int) < m := by omega
              by_cases hl : m + 2 ≤ b.length - (j + 1)
              · have hlI : ¬ (b.length : Int) - j - 1 < (m : Int) + 2 := by omega
                have hs1 : j + 1 + m < (bs b).size := by omega
                have hs2 : j + 2 + m < (bs b).size := by omega
                have hg1 := HGET.out _ hs1
                have hg2 := HGET.out _ hs2
                have hv1 := GV.out _ hs1
                have hv2 := GV.out _ hs2
                have TW := Lib.hid (two_at hg1 hg2)
                have EX2 := SUB.out (j + 1) (j + 1 + m)
                rw [show j + 1 + m - (j + 1) = m by omega] at EX2
                have z1 : (0 : Int) ≤ (j : Int) + 1 := by omega
                have z2 : (j : Int) + 1 ≤ (j : Int) + 1 + m := by omega
                have z3 : (j : Int) + 1 + m ≤ b.length := by omega
                have z4 : ((j : Int) + 1).toNat = j + 1 := by omega
                have z5 : ((j : Int) + 1 + m).toNat = j + 1 + m := by omega
                have z6 : (0 : Int) ≤ (j : Int) + 1 + m := by omega
                have z7 : (j : Int) + 1 + m < b.length := by omega
                have z8 : ((j : Int) + 2 + m).toNat = j + 2 + m := by omega
                have z9 : (0 : Int) ≤ (j : Int) + 2 + m := by omega
                have z10 : (j : Int) + 2 + m < b.length := by omega
                have hq : ((bs b)[j + 1 + m]'hs1 = 10 ∧ (bs b)[j + 2 + m]'hs2 = 46) ∨ ¬ ((bs b)[j + 1 + m]'hs1 = 10 ∧ (bs b)[j + 2 + m]'hs2 = 46) := Classical.em _
                rcases hq with ⟨q1, q2⟩ | hq
                · have q1I : ((((bs b)[j + 1 + m]'hs1).toNat : Int) != 10) = false := by rw [q1]; rfl
                  have q2I : ((((bs b)[j + 2 + m]'hs2).toNat : Int) != 46) = false := by rw [q2]; rfl
                  have ON : Hid (oneL (b.drop n) = some ((b.drop (j + 1)).take m)) := Lib.hid (by
                    rw [IF.out, if_pos ⟨hm, by rw [List.length_drop]; omega, by rw [TW.out, q1, q2]⟩])
                  have hsl : ((b.drop (j + 1)).take m).length = m := by rw [List.length_take, List.length_drop]; omega
                  have HRL := REC.out m _ rfl hsl
                  have HST := readL_step (b := []) HR.out ON.out
                  rw [HRL, show n + (j - n + m + 3) = j + 3 + m by omega] at HST
                  have HST := Lib.hid HST
                  have HD2 := HD.out
                  have HN1 : Hid (done.length + 1 ≤ maxLen) := by show _ ≤ _; unfold maxLen; omega
                  have HN2 : Hid ((done.length + 1) * 16 ≤ 140737488355328) := by show _ ≤ _; omega
                  have KK := Lib.hid (show j + 3 + m ≤ b.length ∧ done.length + 1 ≤ j + 3 + m ∧ n < j + 3 + m by omega)
                  clear hg1 hg2 hv1 hv2 q1 q2 TW IF DONE REC HRL HD2 ON hsl
                  generalize (b.drop (j + 1)).take m = s at *
                  have BS := Lib.hid BW.out.size
                  go_wp2_with (at_builtin; refine wpList_append_own _ rfl _ _ 39 rfl w.heap.size 9 i0 _ 1 16 Tryd.underlying39 hi hz0 hz1 hz2 rfl (by decide) _ _ _ rfl (HO.out.alloc _) ⟨wr.heap.size, 0, none⟩ 1 1 [.string (bs s)] rfl rfl (one_news (by simp)) (one_cell rfl) HN1.out HN2.out (by have := BS.out; simp; omega) ?_; intro v' w5 hown5 hgrow _; have HO5 := Lib.hid hown5; have B5 := Lib.hid ((BW.out.alloc BS.out _).grown hgrow (by have := BS.out; simp; omega) (fun j hj => (HO.out.lt j hj).1)); clear hown5 hgrow)
                  go_roundw
                  case rel => exact ⟨j + 3 + m, done ++ [s], by go_num, KK.out.1, by simpa using KK.out.2.1, by rw [strV_snoc, List.length_append]; exact HO5.out, HST.out, B5.out⟩
                  case measure => have := KK.out; simp [intOf]; omega
                · have D := Lib.hid (DONE.out (by
                    rw [IF.out, if_neg]
                    rintro ⟨_, _, h3⟩
                    rw [TW.out] at h3
                    injection h3 with h4 h5
                    injection h5 with h5 _
                    exact hq ⟨h4, h5⟩))
                  by_cases q1 : (bs b)[j + 1 + m]'hs1 = 10
                  · have q2 : (bs b)[j + 2 + m]'hs2 ≠ 46 := fun e => hq ⟨q1, e⟩
                    have q1I : ((((bs b)[j + 1 + m]'hs1).toNat : Int) != 10) = false := by rw [q1]; rfl
                    have q2I : ((((bs b)[j + 2 + m]'hs2).toNat : Int) != 46) = true := by
                      rw [bne_iff_ne]
                      intro e
                      exact q2 (UInt8.toNat_inj.1 (by have : (46 : UInt8).toNat = 46 := rfl; omega))
                    clear hg1 hg2 hv1 hv2 q1 q2 TW IF DONE REC hq
                    go_wp2_with fail
                    go_ret2
                    rw [D.out]
                    exact ⟨_, rfl, HO.out, BW.out⟩
                  · have q1I : ((((bs b)[j + 1 + m]'hs1).toNat : Int) != 10) = true := by
                      rw [bne_iff_ne]
                      intro e
                      exact q1 (UInt8.toNat_inj.1 (by have : (10 : UInt8).toNat = 10 := rfl; omega))
                    clear hg1 hg2 hv1 hv2 q1 TW IF DONE REC hq
                    go_wp2_with fail
                    go_ret2
                    rw [D.out]
                    exact ⟨_, rfl, HO.out, BW.out⟩
              · have hlI : (b.length : Int) - j - 1 < (m : Int) + 2 := by omega
                have D := Lib.hid (DONE.out (by rw [IF.out, if_neg (fun h => hl (by have := h.2.1; rw [List.length_drop] at this; exact this))]))
                go_wp2_with fail
                go_ret2
                rw [D.out]
                exact ⟨_, rfl, HO.out, BW.out⟩
            · have hmI : (20000 : Int) < m := by omega
              have D := Lib.hid (DONE.out (by rw [IF.out, if_neg (fun h => hm h.1)]))
              go_wp2_with fail
              go_ret2
              rw [D.out]
              exact ⟨_, rfl, HO.out, BW.out⟩
        · have hcI : ((((bs b)[j]'hjs).toNat : Int) != 58) = true := by
            rw [bne_iff_ne]
            intro e
            exact hc (UInt8.toNat_inj.1 (by have : (58 : UInt8).toNat = 58 := rfl; omega))
          have N2 : Hid (∀ i, n ≤ i → i < j + 1 → b[i]? ≠ some 58) := Lib.hid fun i h1 h2 e => by
            by_cases hij : i = j
            · subst hij
              rw [hg] at e
              exact hc (Option.some.inj e)
            · exact HNO.out i h1 (by omega) e
          have KK := Lib.hid (show j + 1 ≤ b.length from hlt)
          clear hg hcv hc
          go_wp2_with fail
          go_roundw
          case rel => exact ⟨j + 1, by go_num, by omega, KK.out, N2.out, by trivial⟩
          case measure => simp [intOf]; omega
      · have hltI : ¬ (j : Int) < b.length := by omega
        have hjl : ((j : Int) == b.length) = true := by rw [beq_iff_eq]; omega
        have NO := Lib.hid (cut_none_of HNO.out (show b.length ≤ j by omega))
        have hrb : readL b = (done, n) := by
          have := HR.out
          rw [readL_none (one_cut NO.out)] at this
          simpa using this
        have HRB := Lib.hid hrb
        clear hrb
        go_wp2_with fail
        go_ret2
        rw [HRB.out]
        exact ⟨_, rfl, HO.out, BW.out⟩
end Go.Proofs.YtomaojpldinmgaaDoor
