/- Contracts of the document's SignText. -/
import Derived.Test.YtphigoclkkgpoaaDoorRefSign2
import Derived.Deep.RegionHeld3
namespace Go.Proofs.YtphigoclkkgpoaaDoor
open Go.RowKit
set_option linter.unusedVariables false

theorem bText_take (l : List Blk) (k : Nat) : (bText (l.take k)).length ≤ 21 * k := by
  have := bText_len (l.take k)
  have h : (l.take k).length ≤ k := by simp; omega
  omega
set_option maxRecDepth 100000 in
set_option maxHeartbeats 3200000 in
theorem rsigntext_any (s0 : Option Addr) (n0 c0 : Nat) (l : List Blk) (size : Int) (w : World) (hl : SliceIs w (.slice s0 n0 c0) 3 (bcells l)) (hS : ∀ b ∈ l, b.S < 4294967296) (hok : (chk l size).1 = 0) :
    Calls Tryd.prog 44 #[.slice s0 n0 c0, .int .i64 size] w fun e w' => e = .returned (.string (bs (sText l size))) ∧ Below w.heap.size w w' := by
  have hlen : l.length = n0 ∧ c0 ≤ maxLen ∧ n0 ≤ c0 := by
    obtain ⟨s0', n0', c0', e1, e2, e3, e4, _⟩ := hl.get
    cases e1
    rw [bcells_len] at e2
    exact ⟨by omega, e4, e3⟩
  obtain ⟨rfl, hc0, hc1⟩ := hlen
  obtain ⟨k1, k2, k3, k4⟩ := chk_ok hok
  unfold maxLen at hc0
  have HLS := Lib.hid hl
  have HEA := Lib.hid k4
  have HSS := Lib.hid hS
  have HST := Lib.hid (sText_is l size)
  obtain ⟨z, rfl⟩ : ∃ z : Nat, size = z := ⟨size.toNat, by omega⟩
  have hz : ((z : Int)).toNat = z := by omega
  rw [hz] at HST
  have hn1 := num_len z
  have hn2 := num_len l.length
  have NZ := Lib.hid (fun w' => rnumtext_any z w' (by omega))
  have NL := Lib.hid (fun w' => rnumtext_any l.length w' (by omega))
  have HADD := Lib.hid bs_add
  have hadd0 : bs (num z) ++ bs (num l.length) = bs (num z ++ num l.length) := bs_add _ _
  have hcat0 : ¬ 9223372036854775807 < (num z).length + (num l.length).length := by omega
  clear hl hS hok k4 hz
  go_enter Tryd.func44, Tryd.ntmps44
  go_wp2_with fail
  refine (NZ.out _).mono ?_
  rintro e w1 ⟨rfl, b1⟩
  go_wp2_with fail
  refine (NL.out _).mono ?_
  rintro e w2 ⟨rfl, b2⟩
  have b12 := below_trans' b1 b2
  clear b1 b2
  go_wp2_with fail
  go_loopw [5, 6] (fun s i wr => ∃ k : Nat, i = .int .i64 k ∧ k ≤ l.length ∧ s = .string (bs (num z ++ num l.length ++ bText (l.take k))) ∧ Below w.heap.size w wr) (fun _ i _ => l.length - (intOf i).toNat)
  case atStart => exact ⟨0, rfl, by omega, by simp [bText_nil], b12⟩
  case round =>
    clear b12 hadd0
    obtain ⟨k, rfl, hk, rfl, bel⟩ := hrel
    by_cases hlt : k < l.length
    · have hltI : (k : Int) < l.length := by omega
      obtain ⟨s0', n0', c0', e1, _, _, _, g1⟩ := HLS.out.get
      cases e1
      obtain ⟨g2, g3, g4⟩ := bcells_get l k hlt
      obtain ⟨ad, rfl, d0⟩ := g1 _ _ g2
      obtain ⟨a', e', d1⟩ := g1 _ _ g3
      cases e'
      obtain ⟨a', e', d2⟩ := g1 _ _ g4
      cases e'
      clear g1 g2 g3 g4
      have KK := Lib.hid (show k + 1 ≤ l.length by omega)
      have x1 : (0 : Int) ≤ k := by omega
      have x2 : (k : Int).toNat = k := by omega
      have hea := HEA.out _ (List.getElem_mem hlt)
      have hs := HSS.out _ (List.getElem_mem hlt)
      have htk := Lib.hid (List.take_succ_eq_append_getElem hlt)
      have hbl := bText_take l k
      generalize l[k] = bk at d0 d1 d2 hea hs htk
      obtain ⟨bn, bw, bS⟩ := bk
      have d1 := cell_at d1
      have d2 := cell_at d2
      simp only [] at d0 d1 d2 hea hs
      obtain ⟨y1, y2, y3, y4⟩ := hea
      obtain ⟨p, rfl⟩ : ∃ p : Nat, bn = p := ⟨bn.toNat, by omega⟩
      obtain ⟨q, rfl⟩ : ∃ q : Nat, bw = q := ⟨bw.toNat, by omega⟩
      have HT : Hid (bText (l.take (k + 1)) = bText (l.take k) ++ num p ++ num q ++ num bS) := by
        show _ = _
        rw [htk.out, bText_append, bText_one]
        simp [List.append_assoc]
      have PN := Lib.hid (fun w' => rnumtext_any p w' (by omega))
      have PQ := Lib.hid (fun w' => rnumtext_any q w' (by omega))
      have PS := Lib.hid (fun w' => rnumtext_any bS w' (by omega))
      have D0 := Lib.hid (fun (w' : World) (b : Below w.heap.size w w') => cell_kept d0 b)
      have D1 := Lib.hid (fun (w' : World) (b : Below w.heap.size w w') => cell_kept d1 b)
      have D2 := Lib.hid (fun (w' : World) (b : Below w.heap.size w w') => cell_kept d2 b)
      have hm1 := num_len p
      have hm2 := num_len q
      have hm3 := num_len bS
      obtain ⟨X, hX⟩ : ∃ X, X = num z ++ num l.length ++ bText (l.take k) := ⟨_, rfl⟩
      have hXl : X.length ≤ 14 + 21 * k := by rw [hX]; simp only [List.length_append]; omega
      rw [← hX]
      obtain ⟨Y1, hY1⟩ : ∃ Y1, Y1 = X ++ num p := ⟨_, rfl⟩
      obtain ⟨Y2, hY2⟩ : ∃ Y2, Y2 = Y1 ++ num q := ⟨_, rfl⟩
      obtain ⟨Y3, hY3⟩ : ∃ Y3, Y3 = Y2 ++ num bS := ⟨_, rfl⟩
      have hA1 : bs X ++ bs (num p) = bs Y1 := by rw [hY1]; exact bs_add _ _
      have hA2 : bs Y1 ++ bs (num q) = bs Y2 := by rw [hY2]; exact bs_add _ _
      have hA3 : bs Y2 ++ bs (num bS) = bs Y3 := by rw [hY3]; exact bs_add _ _
      have hl1 : Y1.length ≤ 21 + 21 * k := by rw [hY1, List.length_append]; omega
      have hl2 : Y2.length ≤ 28 + 21 * k := by rw [hY2, List.length_append]; omega
      have HYY : Hid (num z ++ num l.length ++ bText (l.take (k + 1)) = Y3) := by
        show _ = _
        rw [HT.out, hY3, hY2, hY1, hX]
        simp [List.append_assoc]
      have hc1' : ¬ 9223372036854775807 < X.length + (num p).length := by omega
      have hc2' : ¬ 9223372036854775807 < Y1.length + (num q).length := by omega
      have hc3' : ¬ 9223372036854775807 < Y2.length + (num bS).length := by omega
      clear hY1 hY2 hY3 hXl hl1 hl2
      clear d0 d1 d2 hX htk
      have d0 := D0.out _ bel
      have d1 := D1.out _ bel
      have d2 := D2.out _ bel
      go_wp2_with fail
      have DD : Hid (∀ w' : World, Below w.heap.size w w' → (w'.cell? (ad.add (k * 3)) = some (.int .i64 p) ∧ w'.cell? ⟨(ad.add (k * 3)).block, (ad.add (k * 3)).off + (0 + 1), none⟩ = some (.int .i64 q) ∧ w'.cell? ⟨(ad.add (k * 3)).block, (ad.add (k * 3)).off + (1 + 1), none⟩ = some (.int .u32 bS)) ∧ Below w.heap.size w w') := fun w' b => ⟨⟨D0.out _ b, (by first | exact D1.out _ b | exact cell_at (D1.out _ b)), (by first | exact D2.out _ b | exact cell_at (D2.out _ b))⟩, b⟩
      have PSW : Hid (∀ w' : World, Calls Tryd.prog 19 #[.int .i64 (IntKind.i64.wrap (bS : Int))] w' fun e w'' => e = .returned (.string (bs (num bS))) ∧ Below w'.heap.size w' w'') := by
        rw [show IntKind.i64.wrap (bS : Int) = (bS : Int) from IntWalk.i64_in _ (by omega)]; exact PS
      have S0 := DD.out _ bel
      clear D0 D1 D2 d0 d1 d2
      go_region_held3 (fun w' => (w'.cell? (ad.add (k * 3)) = some (.int .i64 p) ∧ w'.cell? ⟨(ad.add (k * 3)).block, (ad.add (k * 3)).off + (0 + 1), none⟩ = some (.int .i64 q) ∧ w'.cell? ⟨(ad.add (k * 3)).block, (ad.add (k * 3)).off + (1 + 1), none⟩ = some (.int .u32 bS)) ∧ Below w.heap.size w w') (first | assumption | exact S0 | exact DD.out _ (by assumption) | exact DD.out _ (Below.drew bel))
        (first
        | (go_at_call 19; (with_reducible refine (PN.out _).mono ?_); rintro e v1 ⟨rfl, b1⟩; have bel1 := below_trans' (by first | assumption | exact Below.drew bel | exact below_drewN bel _) b1; have S1 := DD.out _ bel1)
        | (go_at_call 19; (with_reducible refine (PQ.out _).mono ?_); rintro e v1 ⟨rfl, b1⟩; have bel1 := below_trans' (by first | assumption | exact Below.drew bel | exact below_drewN bel _) b1; have S1 := DD.out _ bel1)
        | (go_at_call 19; (with_reducible refine (PSW.out _).mono ?_); rintro e v1 ⟨rfl, b1⟩; have bel1 := below_trans' (by first | assumption | exact Below.drew bel | exact below_drewN bel _) b1; have S1 := DD.out _ bel1)
        | (go_at_call 19; (with_reducible refine (PS.out _).mono ?_); rintro e v1 ⟨rfl, b1⟩; have bel1 := below_trans' (by first | assumption | exact Below.drew bel | exact below_drewN bel _) b1; have S1 := DD.out _ bel1))
      go_wp2_with fail
      go_roundw
      case rel => exact ⟨k + 1, by go_num, KK.out, by rw [HYY.out], by assumption⟩
      case measure => simp [intOf]; omega
    · have hltI : ¬ (k : Int) < l.length := by omega
      have htk : l.take k = l := List.take_of_length_le (by omega)
      rw [htk, ← HST.out]
      clear htk
      go_wp2_with fail
      go_ret
      exact ⟨rfl, bel⟩
end Go.Proofs.YtphigoclkkgpoaaDoor
