/- The document's LinesText. -/
import Derived.Test.YtapdfgnfblkncaaGreatDoorRefAs
import Derived.Test.YtapdfgnfblkncaaGreatDoorRefNum
import Derived.Test.YtapdfgnfblkncaaGreatDoorFilText
import Derived.Test.YtapdfgnfblkncaaGreatDoorWText
import Derived.Deep.RegionHeld3
namespace Go.Proofs.YtapdfgnfblkncaaGreatDoor
open Go.RowKit
set_option linter.unusedVariables false

theorem lnText_take (l : List PL) (k : Nat) (h : ∀ x ∈ l, x.n.length ≤ 12) : (lnText (l.take k)).length ≤ 40 * k := by
  have := lnText_len (l.take k) (fun x hx => h x (List.mem_of_mem_take hx))
  have h : (l.take k).length ≤ k := by simp; omega
  omega
set_option maxRecDepth 100000 in
set_option maxHeartbeats 6400000 in
theorem rlinestext_any (l : List PM) (v : Value) (w : World) (hl : SliceIs w v 3 (mcells l)) (hS : ∀ x ∈ l, x.ok32) (hok : LWF (l.map PM.pl)) :
    Calls Tryz.prog 10 #[v] w fun e w' => e = .returned (.string (bs (flText (l.map PM.pl)))) ∧ Below w.heap.size w w' := by
  obtain ⟨s, n, c, rfl, hn, h1, h2, hg⟩ := hl.get
  rw [mcells_len] at hn
  obtain rfl : n = l.length := by omega
  unfold maxLen at h2
  have hfew := hok.few
  rw [List.length_map] at hfew
  have HLS := Lib.hid hl
  have HEA := Lib.hid (show ∀ x ∈ l, x.n.length ≤ 12 ∧ 0 ≤ x.N ∧ x.N ≤ 4000 from fun x hx => by
    obtain ⟨a, b, c⟩ := hok.each x.pl (List.mem_map.2 ⟨x, hx, rfl⟩)
    exact ⟨((nameB_iff _).1 a).2.1, b, c⟩)
  have HBL := Lib.hid (fun k => lnText_take (l.map PM.pl) k (fun y hy => by obtain ⟨x, hx, rfl⟩ := List.mem_map.1 hy; exact (HEA.out x hx).1))
  have HSS := Lib.hid hS
  have HST := Lib.hid (flText_is (l.map PM.pl))
  have hn2 := num_len l.length
  have NL := Lib.hid (fun w' => rnumtext_any l.length w' (by omega))
  clear hl hS hok hg
  go_enter Tryz.func10, Tryz.ntmps10
  go_wp2_with fail
  refine (NL.out _).mono ?_
  rintro e w2 ⟨rfl, b12⟩
  go_wp2_with fail
  go_loopw [3, 4] (fun s i wr => ∃ k : Nat, i = .int .i64 k ∧ k ≤ l.length ∧ s = .string (bs (num l.length ++ lnText ((l.map PM.pl).take k))) ∧ Below w.heap.size w wr) (fun _ i _ => l.length - (intOf i).toNat)
  case atStart => exact ⟨0, rfl, by omega, by simp [lnText_nil], b12⟩
  case round =>
    clear b12
    obtain ⟨k, rfl, hk, rfl, bel⟩ := hrel
    by_cases hlt : k < l.length
    · have hltI : (k : Int) < l.length := by omega
      obtain ⟨s0', n0', c0', e1, _, _, _, g1⟩ := HLS.out.get
      cases e1
      obtain ⟨g2, g3, g4⟩ := mcells_get l k hlt
      obtain ⟨ad, rfl, d0⟩ := g1 _ _ g2
      obtain ⟨a', e', d1⟩ := g1 _ _ g3
      cases e'
      obtain ⟨a', e', d2⟩ := g1 _ _ g4
      cases e'
      clear g1 g2 g3 g4
      have KK := Lib.hid (show k + 1 ≤ l.length by omega)
      have x1 : (0 : Int) ≤ k := by omega
      have x2 : (k : Int).toNat = k := by omega
      have hea := HEA.out _ (List.getElem_mem hlt)
      have hs := HSS.out _ (List.getElem_mem hlt)
      have hltM : k < (l.map PM.pl).length := by rw [List.length_map]; exact hlt
      have htk := Lib.hid (show lnText ((l.map PM.pl).take (k + 1)) = lnText ((l.map PM.pl).take k) ++ lnText [(l[k]'hlt).pl] by
        rw [List.take_succ_eq_append_getElem hltM, lnText_append, List.getElem_map])
      have hbl := HBL.out k
      generalize l[k]'hlt = bk at d0 d1 d2 hea hs htk
      obtain ⟨bn, bN, bS⟩ := bk
      have d1 := cell_at d1
      have d2 := cell_at d2
      simp only [PM.ok32] at d0 d1 d2 hea hs
      obtain ⟨y1, y2, y3⟩ := hea
      obtain ⟨y4, y5⟩ := hs
      obtain ⟨p, rfl⟩ : ∃ p : Nat, bN = p := ⟨bN.toNat, by omega⟩
      obtain ⟨q, rfl⟩ : ∃ q : Nat, bS = q := ⟨bS.toNat, by omega⟩
      have HT : Hid (lnText ((l.map PM.pl).take (k + 1)) = lnText ((l.map PM.pl).take k) ++ (num bn.length ++ bn) ++ num p ++ num q) := by
        show _ = _
        rw [htk.out, lnText_one]
        simp only [PM.pl, Int.toNat_natCast]
        simp [List.append_assoc]
      have PN := fun w' => rcounted_any (bs bn) w' (by rw [bs_size]; omega)
      simp only [bs_size, bs_list] at PN
      have HPN := Lib.hid PN
      have PQ := Lib.hid (fun w' => rnumtext_any p w' (by omega))
      have PS := Lib.hid (fun w' => rnumtext_any q w' (by omega))
      have D0 := Lib.hid (fun (w' : World) (b : Below w.heap.size w w') => cell_kept d0 b)
      have D1 := Lib.hid (fun (w' : World) (b : Below w.heap.size w w') => cell_kept d1 b)
      have D2 := Lib.hid (fun (w' : World) (b : Below w.heap.size w w') => cell_kept d2 b)
      have hm1 := num_len bn.length
      have hm2 := num_len p
      have hm3 := num_len q
      obtain ⟨X, hX⟩ : ∃ X, X = num l.length ++ lnText ((l.map PM.pl).take k) := ⟨_, rfl⟩
      have hXl : X.length ≤ 14 + 40 * k := by rw [hX]; simp only [List.length_append]; omega
      rw [← hX]
      obtain ⟨Z, hZ⟩ : ∃ Z, Z = num bn.length ++ bn := ⟨_, rfl⟩
      have hZl : Z.length ≤ 40 := by rw [hZ, List.length_append]; omega
      rw [← hZ] at HPN HT
      obtain ⟨Y1, hY1⟩ : ∃ Y1, Y1 = X ++ Z := ⟨_, rfl⟩
      obtain ⟨Y2, hY2⟩ : ∃ Y2, Y2 = Y1 ++ num p := ⟨_, rfl⟩
      obtain ⟨Y3, hY3⟩ : ∃ Y3, Y3 = Y2 ++ num q := ⟨_, rfl⟩
      have hA1 : bs X ++ bs Z = bs Y1 := by rw [hY1]; exact bs_add _ _
      have hA2 : bs Y1 ++ bs (num p) = bs Y2 := by rw [hY2]; exact bs_add _ _
      have hA3 : bs Y2 ++ bs (num q) = bs Y3 := by rw [hY3]; exact bs_add _ _
      have hl1 : Y1.length ≤ 60 + 40 * k := by rw [hY1, List.length_append]; omega
      have hl2 : Y2.length ≤ 70 + 40 * k := by rw [hY2, List.length_append]; omega
      have HYY : Hid (num l.length ++ lnText ((l.map PM.pl).take (k + 1)) = Y3) := by
        show _ = _
        rw [HT.out, hY3, hY2, hY1, hX]
        simp [List.append_assoc]
      have hc1' : ¬ 9223372036854775807 < X.length + Z.length := by omega
      have hc2' : ¬ 9223372036854775807 < Y1.length + (num p).length := by omega
      have hc3' : ¬ 9223372036854775807 < Y2.length + (num q).length := by omega
      clear hY1 hY2 hY3 hXl hl1 hl2 hZ PN
      clear d0 d1 d2 hX htk
      have d0 := D0.out _ bel
      have d1 := D1.out _ bel
      have d2 := D2.out _ bel
      go_wp2_with fail
      have DD : Hid (∀ w' : World, Below w.heap.size w w' → (w'.cell? (ad.add (k * 3)) = some (.string (bs bn)) ∧ w'.cell? ⟨(ad.add (k * 3)).block, (ad.add (k * 3)).off + (0 + 1), none⟩ = some (.int .i64 p) ∧ w'.cell? ⟨(ad.add (k * 3)).block, (ad.add (k * 3)).off + (1 + 1), none⟩ = some (.int .i64 q)) ∧ Below w.heap.size w w') := fun w' b => ⟨⟨D0.out _ b, (by first | exact D1.out _ b | exact cell_at (D1.out _ b)), (by first | exact D2.out _ b | exact cell_at (D2.out _ b))⟩, b⟩
      have S0 := DD.out _ bel
      clear D0 D1 D2 d0 d1 d2
      go_region_held3 (fun w' => (w'.cell? (ad.add (k * 3)) = some (.string (bs bn)) ∧ w'.cell? ⟨(ad.add (k * 3)).block, (ad.add (k * 3)).off + (0 + 1), none⟩ = some (.int .i64 p) ∧ w'.cell? ⟨(ad.add (k * 3)).block, (ad.add (k * 3)).off + (1 + 1), none⟩ = some (.int .i64 q)) ∧ Below w.heap.size w w') (first | assumption | exact S0 | exact DD.out _ (by assumption) | exact DD.out _ (Below.drew bel))
        (first
        | (go_at_call 29; (with_reducible refine (HPN.out _).mono ?_); rintro e v1 ⟨rfl, b1⟩; have bel1 := below_trans' (by first | assumption | exact Below.drew bel | exact below_drewN bel _) b1; have S1 := DD.out _ bel1)
        | (go_at_call 28; (with_reducible refine (PQ.out _).mono ?_); rintro e v1 ⟨rfl, b1⟩; have bel1 := below_trans' (by first | assumption | exact Below.drew bel | exact below_drewN bel _) b1; have S1 := DD.out _ bel1)
        | (go_at_call 28; (with_reducible refine (PS.out _).mono ?_); rintro e v1 ⟨rfl, b1⟩; have bel1 := below_trans' (by first | assumption | exact Below.drew bel | exact below_drewN bel _) b1; have S1 := DD.out _ bel1))
      go_wp2_with fail
      go_roundw
      case rel => exact ⟨k + 1, by go_num, KK.out, by rw [HYY.out], by assumption⟩
      case measure => simp [intOf]; omega
    · have hltI : ¬ (k : Int) < l.length := by omega
      have htk : (l.map PM.pl).take k = l.map PM.pl := List.take_of_length_le (by rw [List.length_map]; omega)
      have h3 : (l.map PM.pl).length = l.length := List.length_map ..
      rw [htk, ← h3, ← HST.out]
      clear htk h3
      go_wp2_with fail
      go_ret
      exact ⟨rfl, bel⟩
end Go.Proofs.YtapdfgnfblkncaaGreatDoor
