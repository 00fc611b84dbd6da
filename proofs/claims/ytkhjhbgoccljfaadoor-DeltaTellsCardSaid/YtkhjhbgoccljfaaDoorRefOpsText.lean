/- Contract of the document's OpsText. -/
import Derived.Test.YtkhjhbgoccljfaaDoorDeltaText
import Derived.Test.YtkhjhbgoccljfaaDoorRefNum
import Derived.Test.YtkhjhbgoccljfaaDoorSignLaws
import Derived.Deep.RegionHeld3
namespace Go.Proofs.YtkhjhbgoccljfaaDoor
open Go.RowKit
set_option linter.unusedVariables false

set_option maxRecDepth 100000 in
set_option maxHeartbeats 3200000 in
theorem ropstext_any (s0 : Option Addr) (n0 c0 : Nat) (l : List POp) (w : World) (hl : SliceIs w (.slice s0 n0 c0) 4 (ocells l)) (hok : (chkOps l).1 = 0) (hlen : l.length ≤ 1000000) (hlong : (opsT l).length ≤ 100000000) :
    Calls Tryd.prog 37 #[.slice s0 n0 c0] w fun e w' => e = .returned (.string (bs (oText l))) ∧ Below w.heap.size w w' := by
  obtain ⟨rfl, hc0, hc1⟩ := ops_len hl
  have HLS := Lib.hid hl
  have HOKE := Lib.hid ((chkOps_ok l).1 hok)
  have HOT := Lib.hid (oText_is l)
  have hn1 := num_len l.length
  have NL := Lib.hid (fun w' => rnumtext_any l.length w' (by omega))
  clear hl hok
  go_enter Tryd.func37, Tryd.ntmps37
  go_wp2_with fail
  refine (NL.out _).mono ?_
  rintro e w1 ⟨rfl, b1⟩
  go_wp2_with fail
  go_loopw [3, 4] (fun s i wr => ∃ k : Nat, i = .int .i64 k ∧ k ≤ l.length ∧ s = .string (bs (num l.length ++ opsT (l.take k))) ∧ Below w.heap.size w wr) (fun _ i _ => l.length - (intOf i).toNat)
  case atStart => exact ⟨0, rfl, by omega, by simp [opsT_nil], b1⟩
  case round =>
    clear b1
    obtain ⟨k, rfl, hk, rfl, bel⟩ := hrel
    by_cases hlt : k < l.length
    · have hltI : (k : Int) < l.length := by omega
      obtain ⟨ad, rfl, d0, d1, d2, d3⟩ := ops_cells HLS.out k hlt
      have KK := Lib.hid (show k + 1 ≤ l.length by omega)
      have x1 : (0 : Int) ≤ k := by omega
      have x2 : (k : Int).toNat = k := by omega
      have hop := HOKE.out _ (List.getElem_mem hlt)
      have htk := Lib.hid (List.take_succ_eq_append_getElem hlt)
      have hbl := opsT_take l k
      generalize l[k] = o at d0 d1 d2 d3 hop htk
      have DD : Hid (∀ w' : World, Below w.heap.size w w' → (w'.cell? (ad.add (k * 4)) = some (.string (bs o.kind)) ∧ w'.cell? ⟨(ad.add (k * 4)).block, (ad.add (k * 4)).off + (0 + 1), none⟩ = some (.int .i64 o.a) ∧ w'.cell? ⟨(ad.add (k * 4)).block, (ad.add (k * 4)).off + (1 + 1), none⟩ = some (.int .i64 o.n) ∧ w'.cell? ⟨(ad.add (k * 4)).block, (ad.add (k * 4)).off + (2 + 1), none⟩ = some (.string (bs o.data))) ∧ Below w.heap.size w w') := fun w' b => ⟨⟨cell_kept d0 b, cell_kept d1 b, cell_kept d2 b, cell_kept d3 b⟩, b⟩
      have S0 := DD.out _ bel
      obtain ⟨X, hX⟩ : ∃ X, X = num l.length ++ opsT (l.take k) := ⟨_, rfl⟩
      have hXl : X.length ≤ 100000007 := by rw [hX]; simp only [List.length_append]; omega
      rw [← hX]
      clear d0 d1 d2 d3
      obtain ⟨⟨d0, d1, d2, d3⟩, _⟩ := S0
      have S0 := DD.out _ bel
      by_cases hkd : o.kind = kCopy
      · obtain ⟨y0, y1, y2, y3, y4⟩ := opC_copy hop hkd
        clear y0
        have k1 := tl_eq o.kind [99, 111, 112, 121] (by rw [hkd, kCopy_is])
        have hT := oText1_copy hkd
        obtain ⟨K, a, n, D⟩ := o
        simp only [] at d0 d1 d2 d3 hT k1 y1 y2 y3 y4 DD S0
        obtain ⟨a, rfl⟩ : ∃ x : Nat, a = x := ⟨a.toNat, by omega⟩
        obtain ⟨n, rfl⟩ : ∃ x : Nat, n = x := ⟨n.toNat, by omega⟩
        rw [show ((a : Int)).toNat = a by omega, show ((n : Int)).toNat = n by omega] at hT
        have m0 := num_len 0
        have m1 := num_len a
        have m2 := num_len n
        obtain ⟨Y1, hY1⟩ : ∃ Y1, Y1 = X ++ num 0 := ⟨_, rfl⟩
        obtain ⟨Y2, hY2⟩ : ∃ Y2, Y2 = Y1 ++ num a := ⟨_, rfl⟩
        obtain ⟨Y3, hY3⟩ : ∃ Y3, Y3 = Y2 ++ num n := ⟨_, rfl⟩
        have hA1 : bs X ++ bs (num 0) = bs Y1 := by rw [hY1]; exact bs_add _ _
        have hA2 : bs Y1 ++ bs (num a) = bs Y2 := by rw [hY2]; exact bs_add _ _
        have hA3 : bs Y2 ++ bs (num n) = bs Y3 := by rw [hY3]; exact bs_add _ _
        have hl1 : Y1.length ≤ 100000014 := by rw [hY1, List.length_append]; omega
        have hl2 : Y2.length ≤ 100000021 := by rw [hY2, List.length_append]; omega
        have HYY : Hid (num l.length ++ opsT (l.take (k + 1)) = Y3) := by
          show _ = _
          rw [htk.out, opsT_append, opsT_one, hT, hY3, hY2, hY1, hX]
          simp [List.append_assoc]
        have hc1' : ¬ 9223372036854775807 < X.length + (num 0).length := by omega
        have hc2' : ¬ 9223372036854775807 < Y1.length + (num a).length := by omega
        have hc3' : ¬ 9223372036854775807 < Y2.length + (num n).length := by omega
        have P0 : Hid (∀ w' : World, Calls Tryd.prog 57 #[.int .i64 0] w' fun e w'' => e = .returned (.string (bs (num 0))) ∧ Below w'.heap.size w' w'') := fun w' => rnumtext_any 0 w' (by omega)
        have PA := Lib.hid (fun w' => rnumtext_any a w' (by omega))
        have PN := Lib.hid (fun w' => rnumtext_any n w' (by omega))
        clear hY1 hY2 hY3 hXl hl1 hl2 hT hX hkd hop htk hbl m0 m1 m2
        generalize num 0 = N0 at *
        go_wp2_with fail
        go_region_held3 (fun w' => (w'.cell? (ad.add (k * 4)) = some (.string (bs K)) ∧ w'.cell? ⟨(ad.add (k * 4)).block, (ad.add (k * 4)).off + (0 + 1), none⟩ = some (.int .i64 a) ∧ w'.cell? ⟨(ad.add (k * 4)).block, (ad.add (k * 4)).off + (1 + 1), none⟩ = some (.int .i64 n) ∧ w'.cell? ⟨(ad.add (k * 4)).block, (ad.add (k * 4)).off + (2 + 1), none⟩ = some (.string (bs D))) ∧ Below w.heap.size w w') (first | assumption | exact S0 | exact DD.out _ (by assumption) | exact DD.out _ (Below.drew bel))
          (first
          | (go_at_call 57; (with_reducible refine (P0.out _).mono ?_); rintro e v1 ⟨rfl, b1⟩; have bel1 := below_trans' (by first | assumption | exact Below.drew bel | exact below_drewN bel _) b1; have S1 := DD.out _ bel1)
          | (go_at_call 57; (with_reducible refine (PA.out _).mono ?_); rintro e v1 ⟨rfl, b1⟩; have bel1 := below_trans' (by first | assumption | exact Below.drew bel | exact below_drewN bel _) b1; have S1 := DD.out _ bel1)
          | (go_at_call 57; (with_reducible refine (PN.out _).mono ?_); rintro e v1 ⟨rfl, b1⟩; have bel1 := below_trans' (by first | assumption | exact Below.drew bel | exact below_drewN bel _) b1; have S1 := DD.out _ bel1))
        go_wp2_with fail
        go_roundw
        case rel => exact ⟨k + 1, by go_num, KK.out, by rw [HYY.out], by assumption⟩
        case measure => simp [intOf]; omega
      · have hkd2 : o.kind = kData := (opC_kind hop).resolve_left hkd
        obtain ⟨y01, y02, y1, y2⟩ := opC_data hop hkd2
        clear y01 y02
        have k1 := tl_ne o.kind [99, 111, 112, 121] (by rw [← kCopy_is]; exact hkd)
        have hT := oText1_data hkd
        obtain ⟨K, a, n, D⟩ := o
        simp only [] at d0 d1 d2 d3 hT k1 y1 y2 DD S0
        have m0 := num_len 1
        have m1 := num_len D.length
        have CD := fun w' => rcounted_any (bs D) w' (by rw [bs_size]; omega)
        simp only [bs_size, bs_list] at CD
        obtain ⟨Q, hQ⟩ : ∃ Q, Q = num D.length ++ D := ⟨_, rfl⟩
        have hQl : Q.length ≤ 4007 := by rw [hQ, List.length_append]; omega
        rw [← hQ] at CD hT
        have PD := Lib.hid CD
        obtain ⟨Y1, hY1⟩ : ∃ Y1, Y1 = X ++ num 1 := ⟨_, rfl⟩
        obtain ⟨Y2, hY2⟩ : ∃ Y2, Y2 = Y1 ++ Q := ⟨_, rfl⟩
        have hA1 : bs X ++ bs (num 1) = bs Y1 := by rw [hY1]; exact bs_add _ _
        have hA2 : bs Y1 ++ bs Q = bs Y2 := by rw [hY2]; exact bs_add _ _
        have hl1 : Y1.length ≤ 100000014 := by rw [hY1, List.length_append]; omega
        have HYY : Hid (num l.length ++ opsT (l.take (k + 1)) = Y2) := by
          show _ = _
          rw [htk.out, opsT_append, opsT_one, hT, hY2, hY1, hX]
          simp [List.append_assoc]
        have hc1' : ¬ 9223372036854775807 < X.length + (num 1).length := by omega
        have hc2' : ¬ 9223372036854775807 < Y1.length + Q.length := by omega
        have P1 : Hid (∀ w' : World, Calls Tryd.prog 57 #[.int .i64 1] w' fun e w'' => e = .returned (.string (bs (num 1))) ∧ Below w'.heap.size w' w'') := fun w' => rnumtext_any 1 w' (by omega)
        clear hY1 hY2 hXl hl1 hT hX hkd hop htk hbl m0 m1 hQ hkd2 CD
        generalize num 1 = N1 at *
        go_wp2_with fail
        go_region_held3 (fun w' => (w'.cell? (ad.add (k * 4)) = some (.string (bs K)) ∧ w'.cell? ⟨(ad.add (k * 4)).block, (ad.add (k * 4)).off + (0 + 1), none⟩ = some (.int .i64 a) ∧ w'.cell? ⟨(ad.add (k * 4)).block, (ad.add (k * 4)).off + (1 + 1), none⟩ = some (.int .i64 n) ∧ w'.cell? ⟨(ad.add (k * 4)).block, (ad.add (k * 4)).off + (2 + 1), none⟩ = some (.string (bs D))) ∧ Below w.heap.size w w') (first | assumption | exact S0 | exact DD.out _ (by assumption) | exact DD.out _ (Below.drew bel))
          (first
          | (go_at_call 57; (with_reducible refine (P1.out _).mono ?_); rintro e v1 ⟨rfl, b1⟩; have bel1 := below_trans' (by first | assumption | exact Below.drew bel | exact below_drewN bel _) b1; have S1 := DD.out _ bel1)
          | (go_at_call 66; (with_reducible refine (PD.out _).mono ?_); rintro e v1 ⟨rfl, b1⟩; have bel1 := below_trans' (by first | assumption | exact Below.drew bel | exact below_drewN bel _) b1; have S1 := DD.out _ bel1))
        go_wp2_with fail
        go_roundw
        case rel => exact ⟨k + 1, by go_num, KK.out, by rw [HYY.out], by assumption⟩
        case measure => simp [intOf]; omega
    · have hltI : ¬ (k : Int) < l.length := by omega
      have htk : l.take k = l := List.take_of_length_le (by omega)
      rw [htk, ← HOT.out]
      clear htk
      go_wp2_with fail
      go_ret
      exact ⟨rfl, bel⟩
end Go.Proofs.YtkhjhbgoccljfaaDoor
