/- TapeJoins: records of two tapes, one behind the other, where the first one is whole, are those of both. -/
import Derived.Test.YtcdfpcdlhiejnaaDoorTaped
import Derived.Test.YtcdfpcdlhiejnaaDoorAppIs
import Derived.Test.YtcdfpcdlhiejnaaDoorLaid
namespace Go.Proofs.YtcdfpcdlhiejnaaDoor
open Go.RowKit
set_option linter.unusedVariables false

theorem tenv_of {E : Nat → Addr} {w : World} (h1 : TabW w) (h2 : MaxW w) (h : ∀ c ∈ [2, 3, 8, 12, 14, 13], Has E w c ∧ Sent w (E c)) : TEnv E w :=
  ⟨⟨h1, h2, (h 13 (by simp)).1, (h 14 (by simp)).1⟩, (h 2 (by simp)).1, (h 8 (by simp)).1, (h 12 (by simp)).1⟩
def bsL (l : List ByteArray) : List (List UInt8) := l.map fun s => s.data.toList
theorem bsL_len (l : List ByteArray) : (bsL l).length = l.length := by unfold bsL; simp
theorem bsL_strV (l : List ByteArray) : strV (bsL l) = l.map Value.string := by
  unfold strV bsL
  rw [List.map_map]
  refine List.map_congr_left fun s _ => ?_
  show Value.string (bs s.data.toList) = _
  rw [bs_of]
theorem strV_app (a b : List (List UInt8)) : strV (a ++ b) = strV a ++ strV b := by unfold strV; simp
theorem bsL_get (l : List ByteArray) (k : Nat) (h : k < l.length) : (bsL l)[k]? = some (l[k]'h).data.toList := by
  unfold bsL; rw [List.getElem?_map, List.getElem?_eq_getElem h]; rfl
theorem strs_at (l : List ByteArray) (k : Nat) (h : k < l.length) : (l.map Value.string)[k]? = some (.string (l[k]'h)) := by
  rw [List.getElem?_map, List.getElem?_eq_getElem h]; rfl
theorem take_snocL (l : List (List UInt8)) (k : Nat) (s : List UInt8) (h : l[k]? = some s) : l.take (k + 1) = l.take k ++ [s] := by
  rw [List.take_add_one, h]; rfl
attribute [local irreducible] recL readL recsL
set_option maxRecDepth 100000 in
set_option maxHeartbeats 12800000 in
theorem tapeJoins_walk (E : Nat → Addr) (s0 : Option Addr) (n0 c0 : Nat) (a0 : List ByteArray) (a1 : ByteArray) (w : World) (hA : SliceIs w (.slice s0 n0 c0) 1 (a0.map .string) ∧ ∀ s ∈ a0, s.size ≤ maxLen) (h1z : a1.size ≤ maxLen) (hT : TabW w) (hM : MaxW w) (hH : ∀ c ∈ [2, 3, 8, 12, 14, 13], Has E w c ∧ Sent w (E c)) (_ : ∀ c ∈ [2, 3, 8, 12, 14, 13], ∀ c' ∈ [2, 3, 8, 12, 14, 13], c ≠ c' → E c ≠ E c') :
    Calls Tryd.prog 3 #[.slice s0 n0 c0, .string a1] w fun e w' => e = .returned (.bool true) ∧ Below w.heap.size w w' := by
  have hE := tenv_of hT hM hH
  have HE := Lib.hid hE
  have TD := Lib.hid (taped_ok E w hE)
  obtain ⟨hsl, _⟩ := hA
  have hg := hsl.get
  obtain ⟨s', n', c', e, hn, h1, h2, hg⟩ := hg
  cases e
  rw [List.length_map, Nat.mul_one] at hn
  subst hn
  unfold maxLen at h2 h1z
  have HSL := Lib.hid hsl
  clear hT hM hH hE hsl hg
  obtain ⟨b, rfl⟩ : ∃ b, a1 = bs b := ⟨a1.data.toList, (bs_of a1).symm⟩
  rw [bs_size] at h1z
  go_enter Tryd.func3, Tryd.ntmps3
  go_wp2_with fail
  refine TD.out.mono ?_
  rintro e w1 ⟨rfl, b1⟩
  by_cases hq1 : a0.length ≤ 20
  · have hq1I : ¬ (20 : Int) < a0.length := by omega
    by_cases hq2 : b.length ≤ 500
    · have hq2I : ¬ (500 : Int) < b.length := by omega
      have ND := Lib.hid (tnew_s (w0 := w) (w := w1) ⟨#[]⟩ b1 (by decide))
      clear TD
      go_wp2_with fail
      refine ND.out.mono ?_
      rintro e w2 ⟨db, rfl, ⟨F2, t2, _⟩, _⟩
      have T2 := Lib.hid t2
      clear t2 b1 ND
      go_wp2_with fail
      go_loopw [8] (fun i wr => ∃ k : Nat, i = .int .i64 k ∧ k ≤ a0.length ∧ (∀ s ∈ (bsL a0).take k, s.length ≤ 200) ∧ ∃ F, TpS w wr F db ⟨recsL ((bsL a0).take k), false, -1⟩) (fun i _ => a0.length - (intOf i).toNat)
      case atStart => exact ⟨0, rfl, by omega, by simp, F2, by simpa [recsL_nil] using T2.out⟩
      case round =>
        obtain ⟨k, rfl, hk, hall, F, tp⟩ := hrel
        have HALL := Lib.hid hall
        have HTP := Lib.hid tp
        clear hall tp
        by_cases hlt : k < a0.length
        · have hltI : (k : Int) < a0.length := by omega
          obtain ⟨s1, n1, c1, e1, _, _, _, g1⟩ := (HSL.out.below HTP.out.bel).get
          cases e1
          obtain ⟨ad, rfl, d0⟩ := g1 _ _ (strs_at a0 k hlt)
          clear g1
          have x1 : (0 : Int) ≤ k := by omega
          have x2 : (k : Int).toNat = k := by omega
          have hgk := bsL_get a0 k hlt
          generalize a0[k]'hlt = s at *
          obtain ⟨t, rfl⟩ : ∃ t, s = bs t := ⟨s.data.toList, (bs_of s).symm⟩
          rw [bs_list] at hgk
          have hsz : (bs t).size = t.length := bs_size t
          by_cases hs : t.length ≤ 200
          · have hsI : ¬ (200 : Int) < t.length := by omega
            have hrl := recsL_le _ HALL.out
            have htl : ((bsL a0).take k).length ≤ 20 := by rw [List.length_take]; omega
            have hr1 := recL_le (s := t) (by omega)
            have hmul : ((bsL a0).take k).length * 208 ≤ 4160 := by omega
            obtain ⟨p1, p2⟩ := ap_of (d := ⟨recsL ((bsL a0).take k), false, -1⟩) (s := t) (by omega) (by simp only; omega) rfl rfl
            have AP := tapp_s t HTP.out HE.out (by omega) (by simp only; omega)
            rw [p1, p2, ev_zero] at AP
            simp only at AP
            rw [← recsL_snoc, ← take_snocL _ _ _ hgk] at AP
            have HAP := Lib.hid AP
            have HALL2 := Lib.hid (show ∀ s ∈ (bsL a0).take (k + 1), s.length ≤ 200 from by
              rw [take_snocL _ _ _ hgk]
              intro s hs2
              rcases List.mem_append.1 hs2 with h | h
              · exact HALL.out s h
              · simp at h; subst h; exact hs)
            have KK := Lib.hid (show k + 1 ≤ a0.length from hlt)
            clear AP p1 p2 hrl htl hr1 hmul hgk HALL
            go_wp2_with fail
            refine HAP.out.mono ?_
            rintro e w4 ⟨rfl, F4, t4, _⟩
            have T4 := Lib.hid t4
            clear t4
            go_wp2_with fail
            go_roundw
            case rel => exact ⟨k + 1, by go_num, KK.out, HALL2.out, F4, T4.out⟩
            case measure => simp [intOf]; omega
          · have hsI : (200 : Int) < t.length := by omega
            clear hgk
            go_wp2_with fail
            go_ret
            exact ⟨rfl, HTP.out.bel⟩
        · have hltI : ¬ (k : Int) < a0.length := by omega
          obtain rfl : k = a0.length := by omega
          have htk : (bsL a0).take a0.length = bsL a0 := List.take_of_length_le (by rw [bsL_len]; omega)
          rw [htk] at HALL HTP
          have hL200 := Lib.hid (fun s hs => Nat.le_trans (HALL.out s hs) (show 200 ≤ 20000 by omega))
          have hrl := recsL_le _ HALL.out
          rw [bsL_len] at hrl
          have R1 : readL (recsL (bsL a0)) = (bsL a0, (recsL (bsL a0)).length) := by
            have := readL_recs (bsL a0) hL200.out []
            rw [List.append_nil, readL_none (b := []) rfl] at this
            simpa using this
          have R2 := readL_recs (bsL a0) hL200.out b
          have BY := Lib.hid (fun (w' : World) (bb : Below wr.heap.size wr w') => tbytes_s (HTP.out.below bb))
          have B0 := Lib.hid HTP.out.bel
          obtain ⟨i0, hi, hz0, hz1, hz2⟩ := info_parts infoStr
          clear hL200 htk
          generalize hD : recsL (bsL a0) = D at *
          obtain ⟨yl, ym, hy⟩ : ∃ yl ym, readL b = (yl, ym) := ⟨_, _, rfl⟩
          rw [hy] at R2
          have hym := readL_len b
          rw [hy] at hym
          simp only at R2 hym BY
          have RDW := Lib.hid (fun (x : List UInt8) (hx : x.length ≤ 1000000) (w' : World) (bb : Below w.heap.size w w') => read_any E x w' (HE.out.lib.below bb) (by omega))
          have RD1 := Lib.hid (RDW.out D (by omega))
          have RD2 := Lib.hid (RDW.out b (by omega))
          have RD3 := Lib.hid (RDW.out (D ++ b) (by rw [List.length_append]; omega))
          simp only [R1] at RD1
          simp only [hy] at RD2
          simp only [R2] at RD3
          have EB : bs D ++ bs b = bs (D ++ b) := eq_bs (by simp)
          have hcat : ¬ 9223372036854775807 < D.length + b.length := by omega
          have hyl : yl.length ≤ 1000 := by
            have := readL_cnt b
            rw [hy] at this
            simp only at this
            omega
          clear R1 R2 hy hD RDW HALL
          go_wp2_with fail
          refine (BY.out _ (Below.refl _ _)).mono ?_
          rintro e w5 ⟨rfl, rfl⟩
          go_wp2_with fail
          refine (RD1.out _ B0.out).mono ?_
          rintro e w6 ⟨rx, rfl, ox, b6⟩
          have bw6 := below_trans' B0.out b6
          go_wp2_with fail
          refine (RD2.out _ bw6).mono ?_
          rintro e w7 ⟨ry, rfl, oy, b7⟩
          have bw7 := below_trans' bw6 b7
          have bb7 := below_trans' b6 b7
          go_wp2_with fail
          refine (BY.out _ bb7).mono ?_
          rintro e w8 ⟨rfl, rfl⟩
          go_wp2_with fail
          refine (RD3.out _ bw7).mono ?_
          rintro e w9 ⟨rz, rfl, oz, b9⟩
          have X9 := Lib.hid (SliceIs.below (SliceIs.ownedK ox) (below_trans' b7 b9))
          have Y9 := Lib.hid (SliceIs.below (SliceIs.ownedK oy) b9)
          have Z9 := Lib.hid (SliceIs.ownedK oz)
          have BW9 := Lib.hid (below_trans' bw7 b9)
          have BB9 := Lib.hid (below_trans' bb7 b9)
          obtain ⟨xa, xc, rfl⟩ := owns_slice ox
          obtain ⟨ya, yc, rfl⟩ := owns_slice oy
          obtain ⟨za, zc, rfl⟩ := owns_slice oz
          clear ox oy oz b6 b7 b9 bw6 bw7 bb7 RD1 RD2 RD3
          have HNIL := Lib.hid (World.ownsRow_nil w9 w9.heap.size 9 1)
          have HN1 : Hid (0 + (bsL a0).length ≤ maxLen) := by show _ ≤ _; rw [bsL_len]; unfold maxLen; omega
          have HN2 : Hid ((0 + (bsL a0).length) * 16 ≤ 140737488355328) := by show _ ≤ _; rw [bsL_len]; omega
          have HN3 : Hid ((bsL a0).length + yl.length ≤ maxLen) := by show _ ≤ _; rw [bsL_len]; unfold maxLen; omega
          have HN4 : Hid (((bsL a0).length + yl.length) * 16 ≤ 140737488355328) := by show _ ≤ _; rw [bsL_len]; omega
          have HONE : Hid (∀ l : List (List UInt8), ∀ u ∈ strV l, u.oneCell' = true) := Lib.hid fun l u hu => by unfold strV at hu; obtain ⟨x, _, rfl⟩ := List.mem_map.1 hu; rfl
          have HLEN : Hid (∀ l : List (List UInt8), (strV l).length = l.length * 1) := Lib.hid fun l => by unfold strV; simp
          have HSA : Hid (∀ w' : World, Below w.heap.size w w' → SliceIs w' (.slice s0 a0.length c0) 1 (strV (bsL a0))) := Lib.hid fun w' bb => by
            rw [bsL_strV]
            exact HSL.out.below bb
          clear HSL hcat EB
          generalize hLL : bsL a0 = LL at *
          clear hLL
          have hwn : IntKind.i64.wrap ((D.length : Int) + (ym : Int)) = (D.length : Int) + (ym : Int) := IntWalk.i64_in _ (by omega)
          have hb1 : (0 : Int) ≤ D.length := by omega
          have hb2 : (D.length : Int) ≤ 100000 := by omega
          have hb3 : (0 : Int) ≤ ym := by omega
          have hb4 : (ym : Int) ≤ 100000 := by omega
          go_wp2_with (first
            | (at_builtin; refine wpList_append_is rfl (.tmp 78) (.tmp 79) 22 rfl w9.heap.size 9 i0 _ 1 16 Tryd.underlying22 hi hz0 hz1 hz2 rfl (by decide) (.slice none 0 0) 0 [] rfl HNIL.out (.slice xa LL.length xc) LL.length (strV LL) rfl X9.out (HLEN.out LL) (HONE.out LL) HN1.out HN2.out (Nat.le_refl _) ?_; intro v' w10 own10 g10 _; rw [Nat.zero_add, List.nil_append] at own10; have OWN10 := Lib.hid own10; have B10 := Lib.hid ((Below.refl w9.heap.size w9).grown g10 (Nat.le_refl _) (fun k h => by cases h)); obtain ⟨va', vc', rfl⟩ := owns_slice own10; clear own10 g10)
            | (at_builtin; refine wpList_append_is rfl (.tmp 81) (.tmp 82) 22 rfl w9.heap.size 9 i0 _ 1 16 Tryd.underlying22 hi hz0 hz1 hz2 rfl (by decide) (.slice va' LL.length vc') LL.length (strV LL) rfl OWN10.out (.slice ya yl.length yc) yl.length (strV yl) rfl (Y9.out.below B10.out) (HLEN.out yl) (HONE.out yl) HN3.out HN4.out B10.out.size ?_; intro v'' w11 own11 g11 _; have OWN11 := Lib.hid own11; have B11 := Lib.hid (B10.out.grown g11 B10.out.size (fun j hj => (OWN10.out.lt j hj).1)); obtain ⟨vb', vd', rfl⟩ := owns_slice own11; clear own11 g11))
          have BW11 := Lib.hid (below_trans' BW9.out B11.out)
          have BB11 := Lib.hid (below_trans' BB9.out B11.out)
          refine (sameTexts_is _ _ LL LL _ (X9.out.below B11.out) (HSA.out _ BW11.out)).mono ?_
          rintro e w12 ⟨rfl, d12⟩
          have BB12 := Lib.hid (below_trans' BB11.out (d12.below _))
          have Z12 := Lib.hid ((Z9.out.below B11.out).below (d12.below _))
          have OW12 := Lib.hid ((SliceIs.ownedK OWN11.out).below (d12.below _))
          have BW12 := Lib.hid (below_trans' BW11.out (d12.below _))
          clear d12
          go_wp2_with fail
          refine (BY.out _ BB12.out).mono ?_
          rintro e w13 ⟨rfl, rfl⟩
          go_wp2_with fail
          have SA2 := sameTexts_is _ _ (LL ++ yl) (LL ++ yl) w13 Z12.out (by have h := OW12.out; rw [← strV_app] at h; exact h)
          rw [beq_self_eq_true] at SA2
          simp only [List.length_append] at SA2
          have HSA2 := Lib.hid SA2
          clear SA2 Z12 OW12 HONE HLEN HN1 HN2 HN3 HN4
          refine HSA2.out.mono ?_
          rintro e w14 ⟨rfl, d14⟩
          go_wp2_with fail
          go_ret
          exact ⟨rfl, below_trans' BW12.out (d14.below _)⟩
    · have hq2I : (500 : Int) < b.length := by omega
      clear TD
      go_wp2_with fail
      go_ret
      exact ⟨rfl, b1⟩
  · have hq1I : (20 : Int) < a0.length := by omega
    clear TD
    go_wp2_with fail
    go_ret
    exact ⟨rfl, b1⟩
end Go.Proofs.YtcdfpcdlhiejnaaDoor
