/- The statements' sameLines, where they are the same. -/
import Derived.Test.YtapdfgnfblkncaaGreatDoorRefLines
import Derived.Test.YtapdfgnfblkncaaGreatDoorFilLines
namespace Go.Proofs.YtapdfgnfblkncaaGreatDoor
open Go.RowKit
set_option linter.unusedVariables false

def PL.pm (x : PL) : PM := ⟨x.n, x.N, (x.S : Nat)⟩
set_option maxRecDepth 100000 in
set_option maxHeartbeats 3200000 in
theorem sameLines_yes (l : List PL) (v1 v2 : Value) (w : World) (h1 : SliceIs w v1 3 (lcells l)) (h2 : SliceIs w v2 3 (mcells (l.map PL.pm))) (hS : ∀ x ∈ l, x.S < 4294967296) :
    Calls Tryz.prog 14 #[v1, v2] w fun e w' => e = .returned (.bool true) ∧ Drew w w' := by
  obtain ⟨s1, n1, c1, rfl, e1, m1, k1, g1⟩ := h1.get
  obtain ⟨s2, n2, c2, rfl, e2, m2, k2, g2⟩ := h2.get
  rw [lcells_len] at e1
  rw [mcells_len, List.length_map] at e2
  obtain rfl : n1 = l.length := by omega
  obtain rfl : n2 = l.length := by omega
  have G1 := Lib.hid h1
  have G2 := Lib.hid h2
  have HS := Lib.hid hS
  clear g1 g2 h1 h2 e1 e2 hS
  have k1' := k1
  unfold maxLen at k1'
  go_enter Tryz.func14, Tryz.ntmps14
  go_wp2_with fail
  go_loopw [5] (fun i wr => ∃ k : Nat, i = .int .i64 k ∧ k ≤ l.length ∧ Drew w wr) (fun i _ => l.length - (intOf i).toNat)
  case atStart => exact ⟨0, rfl, by omega, Drew.refl _⟩
  case round =>
    obtain ⟨k, rfl, hk, m, rfl⟩ := hrel
    by_cases hlt : k < l.length
    · have hltI : (k : Int) < l.length := by omega
      obtain ⟨s', n', c', q, _, _, _, g1⟩ := (G1.out).get
      cases q
      obtain ⟨a0, a1, a2⟩ := lcells_get l k hlt
      obtain ⟨ad1, rfl, ha0⟩ := g1 _ _ a0
      obtain ⟨ad1', q, ha1⟩ := g1 _ _ a1
      cases q
      obtain ⟨ad1', q, ha2⟩ := g1 _ _ a2
      cases q
      obtain ⟨s', n', c', q, _, _, _, g2⟩ := (G2.out).get
      cases q
      obtain ⟨b0, b1, b2⟩ := mcells_get (l.map PL.pm) k (by simpa using hlt)
      obtain ⟨ad2, rfl, hb0⟩ := g2 _ _ b0
      obtain ⟨ad2', q, hb1⟩ := g2 _ _ b1
      cases q
      obtain ⟨ad2', q, hb2⟩ := g2 _ _ b2
      cases q
      clear g1 g2 a0 a1 b0 b1 a2 b2
      have hxS := HS.out _ (List.getElem_mem hlt)
      rw [List.getElem_map] at hb0 hb1 hb2
      have x1 : (0 : Int) ≤ k := by omega
      have x2 : (k : Int).toNat = k := by omega
      generalize l[k]'hlt = x at ha0 ha1 ha2 hb0 hb1 hb2 hxS
      obtain ⟨xn, xN, xS⟩ := x
      simp only [PL.pm] at ha0 ha1 ha2 hb0 hb1 hb2 hxS
      have hxm : (xS : Int) % 4294967296 = xS := by omega
      have ha1 := cell_at ha1
      have hb1 := cell_at hb1
      have ha2 := cell_at ha2
      have hb2 := cell_at hb2
      have KK := Lib.hid (show k + 1 ≤ l.length from hlt)
      go_wp2_with fail
      go_quiet (fail)
      go_wp2_with fail
      go_roundw
      case rel => exact ⟨k + 1, by go_num, KK.out, by first | exact Drew.drewN _ _ | exact (Drew.drewN _ _).trans (Drew.drewN _ _)⟩
      case measure => simp [intOf]; omega
    · have hltI : ¬ (k : Int) < l.length := by omega
      go_wp2_with fail
      go_ret
      exact ⟨by first | rfl | trivial, Drew.drewN _ _⟩
end Go.Proofs.YtapdfgnfblkncaaGreatDoor
