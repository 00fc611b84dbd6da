/- The document's DropOf. -/
import Derived.Test.YtapdfgnfblkncaaDoorRefFilFault
import Derived.Test.YtapdfgnfblkncaaDoorFilIns
namespace Go.Proofs.YtapdfgnfblkncaaDoor
open Go.RowKit
set_option linter.unusedVariables false

theorem dropL_len (l : List PF) (n : List UInt8) : (dropL l n).length ≤ l.length := List.length_filter_le _ _
set_option maxRecDepth 100000 in
set_option maxHeartbeats 6400000 in
theorem dropOf_any (l : List PF) (v : Value) (n : List UInt8) (w : World) (hl : SliceIs w v 2 (fcells l)) (hlen : l.length ≤ 1000000) :
    Calls Tryd.prog 43 #[v, .string (bs n)] w fun e w' => ∃ r, e = .returned r ∧ w'.ownsRow w.heap.size 75 2 r (dropL l n).length (fcells (dropL l n)) ∧ Below w.heap.size w w' := by
  obtain ⟨s, m, c, rfl, hn, h1, h2, hg⟩ := hl.get
  rw [fcells_len] at hn
  obtain rfl : m = l.length := by omega
  unfold maxLen at h2
  have HSL := Lib.hid hl
  obtain ⟨i0, hi, hz0, hz1, hz2⟩ := info_parts infoFile
  clear hl hg
  go_enter Tryd.func43, Tryd.ntmps43
  go_wp2_with fail
  go_loopw [5, 6] (fun o i wr => ∃ k : Nat, i = .int .i64 k ∧ k ≤ l.length ∧ wr.ownsRow w.heap.size 75 2 o (dropL (l.take k) n).length (fcells (dropL (l.take k) n)) ∧ Below w.heap.size w wr) (fun _ i _ => l.length - (intOf i).toNat)
  case atStart => exact ⟨0, rfl, by omega, World.ownsRow_nil _ _ _ _, Below.refl _ _⟩
  case round =>
    obtain ⟨k, rfl, hk, hown, bel⟩ := hrel
    have BW := Lib.hid bel
    by_cases hlt : k < l.length
    · have hltI : (k : Int) < l.length := by omega
      obtain ⟨s0', n0', c0', e1, _, _, _, g1⟩ := (HSL.out.below bel).get
      cases e1
      obtain ⟨g2, g3⟩ := fcells_get l k hlt
      obtain ⟨ad, rfl, d0⟩ := g1 _ _ g2
      obtain ⟨a', e', d1⟩ := g1 _ _ g3
      cases e'
      clear g1 g2 g3
      have TK := Lib.hid (show dropL (l.take (k + 1)) n = dropL (l.take k) n ++ dropL [l[k]'hlt] n by unfold dropL; rw [List.take_succ_eq_append_getElem hlt, List.filter_append])
      have x1 : (0 : Int) ≤ k := by omega
      have x2 : (k : Int).toNat = k := by omega
      have KK := Lib.hid (show k + 1 ≤ l.length from hlt)
      have hdl : (dropL (l.take k) n).length ≤ k := Nat.le_trans (dropL_len _ _) (by rw [List.length_take]; omega)
      generalize l[k]'hlt = x at d0 d1 TK
      have d1 := cell_at d1
      have HO := Lib.hid hown
      generalize dropL (l.take k) n = D at *
      by_cases hx : x.n = n
      · have hb : ((bs x.n).toList == (bs n).toList) = true := by rw [bs_tl', bs_tl']; simpa using hx
        have Y := Lib.hid (show dropL (l.take (k + 1)) n = D by rw [TK.out]; unfold dropL; simp [hx])
        clear TK hx
        go_wp2_with fail
        go_roundw
        case rel => exact ⟨k + 1, by go_num, KK.out, by rw [Y.out]; exact HO.out, BW.out⟩
        case measure => simp [intOf]; omega
      · have hb : ((bs x.n).toList == (bs n).toList) = false := by rw [bs_tl', bs_tl']; simpa using hx
        have Y := Lib.hid (show dropL (l.take (k + 1)) n = D ++ [x] by rw [TK.out]; unfold dropL; simp [hx])
        have HN1 : Hid (D.length + 1 ≤ maxLen) := by show _ ≤ _; unfold maxLen; omega
        have HN2 : Hid ((D.length + 1) * 32 ≤ 140737488355328) := by show _ ≤ _; omega
        obtain ⟨va, vc, rfl⟩ := owns_slice hown
        clear TK hx hown
        have HSZ := Lib.hid bel.size
        go_wp2_with (at_builtin; refine wpList_append_is rfl (.tmp 20) (.tmp 25) 59 rfl w.heap.size 75 i0 _ 2 32 Tryd.underlying59 hi hz0 hz1 hz2 rfl (by decide) _ D.length _ rfl (HO.out.alloc _) _ 1 [.string (bs x.n), .string (bs x.d)] rfl (slice_one (heap_alloc_new _ _)) rfl (fun u hu => by simp at hu; rcases hu with rfl | rfl <;> rfl) HN1.out HN2.out (by have := HSZ.out; simp; omega) ?_; intro v' w5 hown5 hgrow _; have HO5 := Lib.hid hown5; have HG5 := Lib.hid hgrow; clear hown5 hgrow)
        go_roundw
        case rel => exact ⟨k + 1, by go_num, KK.out, by rw [Y.out, fcells_append, List.length_append]; exact HO5.out, (BW.out.alloc BW.out.size _).grown HG5.out (by have := BW.out.size; simp; omega) (fun j hj => (HO.out.lt j hj).1)⟩
        case measure => simp [intOf]; omega
    · have hltI : ¬ (k : Int) < l.length := by omega
      rw [List.take_of_length_le (by omega)] at hown
      go_wp2_with fail
      go_ret
      exact ⟨_, rfl, hown, BW.out⟩
end Go.Proofs.YtapdfgnfblkncaaDoor
