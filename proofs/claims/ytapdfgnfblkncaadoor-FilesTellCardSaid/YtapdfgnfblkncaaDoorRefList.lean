/- The document's ListOf. -/
import Derived.Test.YtapdfgnfblkncaaDoorRefFilFault
namespace Go.Proofs.YtapdfgnfblkncaaDoor
open Go.RowKit
set_option linter.unusedVariables false

def PF.ml (f : PF) : PM := ⟨f.n, f.d.length, (csum f.d : Nat)⟩
set_option maxRecDepth 100000 in
set_option maxHeartbeats 6400000 in
theorem listOf_any (l : List PF) (v : Value) (w : World) (hl : SliceIs w v 2 (fcells l)) (hnm : ∀ x ∈ l, x.d.length ≤ 100000) (hlen : l.length ≤ 1000000) :
    Calls Tryd.prog 46 #[v] w fun e w' => ∃ r, e = .returned r ∧ w'.ownsRow w.heap.size 133 3 r l.length (mcells (l.map PF.ml)) ∧ Below w.heap.size w w' := by
  obtain ⟨s, n, c, rfl, hn, h1, h2, hg⟩ := hl.get
  rw [fcells_len] at hn
  obtain rfl : n = l.length := by omega
  unfold maxLen at h2
  have HSL := Lib.hid hl
  have HNM := Lib.hid hnm
  obtain ⟨i0, hi, hz0, hz1, hz2⟩ := info_parts infoM
  clear hl hg hnm
  go_enter Tryd.func46, Tryd.ntmps46
  go_wp2_with fail
  go_loopw [3, 4] (fun o i wr => ∃ k : Nat, i = .int .i64 k ∧ k ≤ l.length ∧ wr.ownsRow w.heap.size 133 3 o k (mcells ((l.take k).map PF.ml)) ∧ Below w.heap.size w wr) (fun _ i _ => l.length - (intOf i).toNat)
  case atStart => exact ⟨0, rfl, by omega, World.ownsRow_nil _ _ _ _, Below.refl _ _⟩
  case round =>
    obtain ⟨k, rfl, hk, hown, bel⟩ := hrel
    have BW := Lib.hid bel
    by_cases hlt : k < l.length
    · have hltI : (k : Int) < l.length := by omega
      obtain ⟨s0', n0', c0', e1, _, _, _, g1⟩ := (HSL.out.below bel).get
      cases e1
      obtain ⟨g2, g3⟩ := fcells_get l k hlt
      obtain ⟨ad, rfl, d0⟩ := g1 _ _ g2
      obtain ⟨a', e', d1⟩ := g1 _ _ g3
      cases e'
      clear g1 g2 g3
      have NX := Lib.hid (show mcells ((l.take (k + 1)).map PF.ml) = mcells ((l.take k).map PF.ml) ++ [.string (bs (l[k]'hlt).n), .int .i64 ((l[k]'hlt).d.length : Int), .int .i64 ((csum (l[k]'hlt).d : Nat) : Int)] by
        rw [List.take_succ_eq_append_getElem hlt, List.map_append, mcells_append]; rfl)
      have x1 : (0 : Int) ≤ k := by omega
      have x2 : (k : Int).toNat = k := by omega
      have KK := Lib.hid (show k + 1 ≤ l.length from hlt)
      have hdl := HNM.out _ (List.getElem_mem hlt)
      generalize l[k]'hlt = x at d0 d1 NX hdl
      have d1 := cell_at d1
      have hsz : (bs x.d).size = x.d.length := bs_size _
      have SM := Lib.hid (fun w' => sumOf_any (bs x.d) w' (by rw [bs_size]; exact hdl))
      simp only [bs_list] at SM
      have HO := Lib.hid hown
      have HN1 : Hid (k + 1 ≤ maxLen) := by show _ ≤ _; unfold maxLen; omega
      have HN2 : Hid ((k + 1) * 32 ≤ 140737488355328) := by show _ ≤ _; omega
      obtain ⟨va, vc, rfl⟩ := owns_slice hown
      clear hown bel
      go_wp2_with fail
      go_region_law (first | (refine step_append_own rfl (.tmp 11) (.tmp 30) 92 rfl w.heap.size 133 i0 _ 3 32 Tryd.underlying92 hi hz0 hz1 hz2 rfl (by decide) (.slice va k vc) k _ rfl (HO.out.alloc _).drew ⟨wr.heap.size, 0, none⟩ 1 1 [.string (bs x.n), .int .i64 (x.d.length : Int), .int .i64 ((csum x.d : Nat) : Int)] rfl rfl (three_newsL (heap_alloc_new _ _)) (fun u hu => by simp at hu; rcases hu with rfl | rfl | rfl <;> rfl) HN1.out HN2.out (by have := BW.out.size; simp; omega) ?_; intro v' w5 hown5 hgrow _; have HO5 := Lib.hid hown5; have HG5 := Lib.hid (grown_undrew hgrow)) | (go_simp; go_at_call 77; refine (SM.out _).mono ?_; rintro e w' ⟨rfl, rfl⟩))
      all_goals
        go_wp2_with fail
        go_roundw
        case rel => exact ⟨k + 1, by go_num, KK.out, by rw [NX.out]; exact HO5.out, (BW.out.alloc BW.out.size _).grown HG5.out (by have := BW.out.size; simp; omega) (fun j hj => (HO.out.lt j hj).1)⟩
        case measure => simp [intOf]; omega
    · have hltI : ¬ (k : Int) < l.length := by omega
      rw [List.take_of_length_le (by omega)] at hown
      obtain rfl : k = l.length := by omega
      go_wp2_with fail
      go_ret
      exact ⟨_, rfl, hown, BW.out⟩
end Go.Proofs.YtapdfgnfblkncaaDoor
/- The statements' sameLines, where they are the same. -/
namespace Go.Proofs.YtapdfgnfblkncaaDoor
open Go.RowKit
set_option linter.unusedVariables false

def PL.pm (x : PL) : PM := ⟨x.n, x.N, (x.S : Nat)⟩
theorem line_pm (l : List PF) : (l.map PF.line).map PL.pm = l.map PF.ml := by rw [List.map_map]; rfl
set_option maxRecDepth 100000 in
set_option maxHeartbeats 3200000 in
theorem sameLines_yes (l : List PL) (v1 v2 : Value) (w : World) (h1 : SliceIs w v1 3 (lcells l)) (h2 : SliceIs w v2 3 (mcells (l.map PL.pm))) (hS : ∀ x ∈ l, x.S < 4294967296) :
    Calls Tryd.prog 45 #[v1, v2] w fun e w' => e = .returned (.bool true) ∧ Drew w w' := by
  obtain ⟨s1, n1, c1, rfl, e1, m1, k1, g1⟩ := h1.get
  obtain ⟨s2, n2, c2, rfl, e2, m2, k2, g2⟩ := h2.get
  rw [lcells_len] at e1
  rw [mcells_len, List.length_map] at e2
  obtain rfl : n1 = l.length := by omega
  obtain rfl : n2 = l.length := by omega
  have G1 := Lib.hid h1
  have G2 := Lib.hid h2
  have HS := Lib.hid hS
  clear g1 g2 h1 h2 e1 e2 hS
  have k1' := k1
  unfold maxLen at k1'
  go_enter Tryd.func45, Tryd.ntmps45
  go_wp2_with fail
  go_loopw [5] (fun i wr => ∃ k : Nat, i = .int .i64 k ∧ k ≤ l.length ∧ Drew w wr) (fun i _ => l.length - (intOf i).toNat)
  case atStart => exact ⟨0, rfl, by omega, Drew.refl _⟩
  case round =>
    obtain ⟨k, rfl, hk, m, rfl⟩ := hrel
    by_cases hlt : k < l.length
    · have hltI : (k : Int) < l.length := by omega
      obtain ⟨s', n', c', q, _, _, _, g1⟩ := (G1.out).get
      cases q
      obtain ⟨a0, a1, a2⟩ := lcells_get l k hlt
      obtain ⟨ad1, rfl, ha0⟩ := g1 _ _ a0
      obtain ⟨ad1', q, ha1⟩ := g1 _ _ a1
      cases q
      obtain ⟨ad1', q, ha2⟩ := g1 _ _ a2
      cases q
      obtain ⟨s', n', c', q, _, _, _, g2⟩ := (G2.out).get
      cases q
      obtain ⟨b0, b1, b2⟩ := mcells_get (l.map PL.pm) k (by simpa using hlt)
      obtain ⟨ad2, rfl, hb0⟩ := g2 _ _ b0
      obtain ⟨ad2', q, hb1⟩ := g2 _ _ b1
      cases q
      obtain ⟨ad2', q, hb2⟩ := g2 _ _ b2
      cases q
      clear g1 g2 a0 a1 b0 b1 a2 b2
      have hxS := HS.out _ (List.getElem_mem hlt)
      rw [List.getElem_map] at hb0 hb1 hb2
      have x1 : (0 : Int) ≤ k := by omega
      have x2 : (k : Int).toNat = k := by omega
      generalize l[k]'hlt = x at ha0 ha1 ha2 hb0 hb1 hb2 hxS
      obtain ⟨xn, xN, xS⟩ := x
      simp only [PL.pm] at ha0 ha1 ha2 hb0 hb1 hb2 hxS
      have hxm : (xS : Int) % 4294967296 = xS := by omega
      have ha1 := cell_at ha1
      have hb1 := cell_at hb1
      have ha2 := cell_at ha2
      have hb2 := cell_at hb2
      have KK := Lib.hid (show k + 1 ≤ l.length from hlt)
      go_wp2_with fail
      go_quiet (fail)
      go_wp2_with fail
      go_roundw
      case rel => exact ⟨k + 1, by go_num, KK.out, by first | exact Drew.drewN _ _ | exact (Drew.drewN _ _).trans (Drew.drewN _ _)⟩
      case measure => simp [intOf]; omega
    · have hltI : ¬ (k : Int) < l.length := by omega
      go_wp2_with fail
      go_ret
      exact ⟨by first | rfl | trivial, Drew.drewN _ _⟩
end Go.Proofs.YtapdfgnfblkncaaDoor
