/- The closed fact 'made'. -/
import Derived.Test.YtkhjhbgoccljfaaDoorDeltaLaws
namespace Go.Proofs.YtkhjhbgoccljfaaDoor
open Go.RowKit
set_option linter.unusedVariables false

theorem ops_lit {w : World} {s0 : Option Addr} {n0 c0 : Nat} {l : List POp} (hl : SliceIs w (.slice s0 n0 c0) 4 (ocells l)) (k : Nat) (hk : k < l.length) :
    ∃ a, s0 = some a ∧ w.cell? (a.add (k * 4)) = some (.string (bs l[k].kind)) ∧ w.cell? (a.add (k * 4 + 1)) = some (.int .i64 l[k].a) ∧
      w.cell? (a.add (k * 4 + 2)) = some (.int .i64 l[k].n) ∧ w.cell? (a.add (k * 4 + 3)) = some (.string (bs l[k].data)) := by
  obtain ⟨s0', n0', c0', e1, _, _, _, g1⟩ := hl.get
  cases e1
  obtain ⟨g2, g3, g4, g5⟩ := ocells_get l k hk
  obtain ⟨a, rfl, d0⟩ := g1 _ _ g2
  obtain ⟨a', e', d1⟩ := g1 _ _ g3
  cases e'
  obtain ⟨a', e', d2⟩ := g1 _ _ g4
  cases e'
  obtain ⟨a', e', d3⟩ := g1 _ _ g5
  cases e'
  exact ⟨a, rfl, d0, d1, d2, d3⟩
set_option maxRecDepth 100000 in
set_option maxHeartbeats 3200000 in
theorem made_ok (E : Nat → Addr) (w : World) (h2 : Has E w 2) (h8 : Has E w 8) : Calls Tryd.prog 30 #[] w fun e w' => e = .returned (.bool true) ∧ Below w.heap.size w w' := by
  have OF := of_yes ⟨#[97, 98, 99, 100, 101, 102]⟩ 3 w (by decide) (by decide) (by decide)
  have MK := fun (w' : World) s0 n0 c0 (hb : Below w.heap.size w w') h => make_any E s0 n0 c0 (blks 3 [97, 98, 99, 100, 101, 102]) 3 ⟨#[120, 97, 98, 99, 100, 101, 102]⟩ w' h (h2.below hb) (h8.below hb) (by rw [show (3 : Int) = ((3 : Nat) : Int) from rfl, blks_chk 3 _ (by decide) (by decide) (by decide)]) (by decide)
  rw [show (3 : Int).toNat = 3 from rfl, show (⟨#[120, 97, 98, 99, 100, 101, 102]⟩ : ByteArray).data.toList = [120, 97, 98, 99, 100, 101, 102] from rfl, made_data] at MK
  simp only [] at OF
  have HOF := Lib.hid OF
  have HMK := Lib.hid MK
  clear OF MK h2 h8
  go_enter Tryd.func30, Tryd.ntmps30
  go_wp2_with fail
  refine HOF.out.mono ?_
  rintro e w1 ⟨v, rfl, hown, b1⟩
  obtain ⟨A, cap, hv⟩ := owns_slice hown
  rw [hv] at hown ⊢
  have SL := Lib.hid (SliceIs.ownedK hown)
  clear hown hv HOF
  go_wp2_with fail
  refine (HMK.out _ _ _ _ b1 SL.out).mono ?_
  rintro e w2 ⟨v, rfl, hown, b2⟩
  have bel := below_trans' b1 b2
  obtain ⟨g, cap, hv, _, _, hc1, _, hc, _⟩ := owns_open hown (by decide)
  rw [hv]
  have c0 := hc 0 (.string ⟨#[100, 97, 116, 97]⟩) (by simp only [ocells_cons, ocells_nil, POp.vals, bs_kCopy, bs_kData]; rfl)
  have c1 := hc 1 (.int .i64 0) (by simp only [ocells_cons, ocells_nil, POp.vals, bs_kCopy, bs_kData]; rfl)
  have c2 := hc 2 (.int .i64 0) (by simp only [ocells_cons, ocells_nil, POp.vals, bs_kCopy, bs_kData]; rfl)
  have c3 := hc 3 (.string ⟨#[120]⟩) (by simp only [ocells_cons, ocells_nil, POp.vals, bs_kCopy, bs_kData]; unfold bs; rfl)
  have c4 := hc 4 (.string ⟨#[99, 111, 112, 121]⟩) (by simp only [ocells_cons, ocells_nil, POp.vals, bs_kCopy, bs_kData]; rfl)
  have c5 := hc 5 (.int .i64 0) (by simp only [ocells_cons, ocells_nil, POp.vals, bs_kCopy, bs_kData]; rfl)
  have c6 := hc 6 (.int .i64 2) (by simp only [ocells_cons, ocells_nil, POp.vals, bs_kCopy, bs_kData]; rfl)
  have c7 := hc 7 (.string ⟨#[]⟩) (by simp only [ocells_cons, ocells_nil, POp.vals, bs_kCopy, bs_kData]; unfold bs; rfl)
  clear hc hown hv b1 b2 SL HMK
  go_wp2_with fail
  go_ret
  exact ⟨rfl, bel⟩

end Go.Proofs.YtkhjhbgoccljfaaDoor
