/- The document's SameTexts, over whatever two slices of texts. -/
import Derived.Test.YtnjkopjbognpiaaDoorArgs
import Derived.Test.YtnjkopjbognpiaaDoorNumPlain

namespace Go.Proofs.YtnjkopjbognpiaaDoor
open Go.RowKit
set_option maxRecDepth 100000 in
set_option maxHeartbeats 1600000 in
theorem sameTexts_is (v1 v2 : Value) (l1 l2 : List (List UInt8)) (w : World) (h1 : SliceIs w v1 1 (l1.map fun x => Value.string (bs x))) (h2 : SliceIs w v2 1 (l2.map fun x => Value.string (bs x))) :
    Calls Tryd.prog 17 #[v1, v2] w fun e w' => e = .returned (.bool (l1 == l2)) ∧ Drew w w' := by
  obtain ⟨s1, n1, c1, rfl, e1, m1, k1, g1⟩ := h1.get
  obtain ⟨s2, n2, c2, rfl, e2, m2, k2, g2⟩ := h2.get
  clear h1 h2
  simp at e1 e2
  have G1 := Lib.hid g1
  have G2 := Lib.hid g2
  clear g1 g2
  have k1' := k1
  unfold maxLen at k1'
  by_cases hlen : n1 = n2
  · subst hlen
    go_enter Tryd.func17, Tryd.ntmps17
    go_wp2_with fail
    go_loopw [5] (fun i wr => ∃ k : Nat, i = .int .i64 k ∧ k ≤ n1 ∧ l1.take k = l2.take k ∧ Drew w wr) (fun i _ => n1 - (intOf i).toNat)
    case atStart => exact ⟨0, rfl, by omega, by simp, Drew.refl _⟩
    case round =>
      obtain ⟨k, rfl, hk, ht, m, rfl⟩ := hrel
      have HT := Lib.hid ht
      clear ht
      by_cases hlt : k < n1
      · have hltI : (k : Int) < n1 := by omega
        obtain ⟨a, rfl, ha⟩ := G1.out k (.string (bs l1[k])) (by simp; exact ⟨_, List.getElem?_eq_getElem (by omega), rfl⟩)
        obtain ⟨b, rfl, hb⟩ := G2.out k (.string (bs l2[k])) (by simp; exact ⟨_, List.getElem?_eq_getElem (by omega), rfl⟩)
        have x1 : (0 : Int) ≤ k := by omega
        have x2 : (k : Int).toNat = k := by omega
        have HEQ := Lib.hid (show l1[k] = l2[k] → l1.take (k + 1) = l2.take (k + 1) from fun h => by rw [List.take_succ_eq_append_getElem (by omega), List.take_succ_eq_append_getElem (by omega), HT.out, h])
        have HNE := Lib.hid (show l1[k] ≠ l2[k] → (l1 == l2) = false from fun h => by rw [beq_eq_false_iff_ne]; rintro rfl; exact h rfl)
        generalize l1[k] = x at ha HEQ HNE
        generalize l2[k] = y at hb HEQ HNE
        have KK := Lib.hid (show k + 1 ≤ n1 by omega)
        by_cases hxy : x = y
        · subst hxy
          go_wp2_with fail
          go_quiet (fail)
          go_wp2_with fail
          go_roundw
          case rel => exact ⟨k + 1, by go_num, KK.out, by first | exact HEQ.out rfl | exact HEQ.out trivial, by first | exact Drew.drewN _ _ | exact (Drew.drewN _ _).trans (Drew.drewN _ _)⟩
          case measure => simp [intOf]; omega
        · have hb1 : ((bs x).toList == (bs y).toList) = false := by rw [ByteArray.toList_eq, ByteArray.toList_eq]; simpa using hxy
          go_wp2_with fail
          go_quiet (fail)
          go_wp2_with fail
          go_ret
          exact ⟨by rw [HNE.out hxy]; rfl, by first | exact Drew.drewN _ _ | exact (Drew.drewN _ _).trans (Drew.drewN _ _)⟩
      · have hltI : ¬ (k : Int) < n1 := by omega
        have hll : l1 = l2 := by
          have := HT.out
          rwa [List.take_of_length_le (by omega), List.take_of_length_le (by omega)] at this
        go_wp2_with fail
        go_ret
        have hb2 : (l1 == l2) = true := by rw [hll]; simp
        exact ⟨by first | rfl | (rw [hb2]; rfl), Drew.drewN _ _⟩
  · have hb1 : ((n1 : Int) == (n2 : Int)) = false := by simp; omega
    have hI : ¬ (n1 : Int) = n2 := by omega
    have hne : (l1 == l2) = false := by rw [beq_eq_false_iff_ne]; rintro rfl; omega
    go_enter Tryd.func17, Tryd.ntmps17
    go_wp2_with fail
    go_ret
    exact ⟨by rw [hne]; rfl, Drew.refl _⟩
end Go.Proofs.YtnjkopjbognpiaaDoor
