/- The closed fact 'taped'. -/
import Derived.Test.YtomaojpldinmgaaDoorTapS
namespace Go.Proofs.YtomaojpldinmgaaDoor
open Go.RowKit
set_option linter.unusedVariables false

def tAB : List UInt8 := [97, 32, 98]
theorem bs_AB : bs tAB = ⟨#[97, 32, 98]⟩ := by unfold bs tAB; rfl
theorem rec_AB : recL tAB = [51, 58, 97, 32, 98, 10, 46] := by
  unfold recL
  rw [show tAB.length = 3 from rfl, dec_small (by omega)]
  rfl
theorem ap_of {d : TP} {s : List UInt8} (h1 : s.length ≤ 20000) (h2 : d.b.length + (recL s).length ≤ 1048576) (h3 : d.off = false) (h4 : d.cut = -1) : apC d s = 0 ∧ apT d s = ⟨d.b ++ recL s, false, -1⟩ := by
  have e1 : wrC d (recL s) = 0 ∧ wrT d (recL s) = ⟨d.b ++ recL s, false, -1⟩ := by
    unfold wrC wrT
    simp [h3, h4]
  unfold apC apT
  rw [if_neg (by omega), if_neg (by omega), if_neg (by omega), if_neg (by omega)]
  exact e1
theorem rc_AB : readL (recL tAB) = ([tAB], 7) := by
  have := readL_rec (s := tAB) (by decide) []
  rw [List.append_nil, rec_AB] at this
  rw [rec_AB, this]
  rfl
theorem one_strs {w : World} {b : Nat} {x : Value} {t : TypeId} (h : w.heap[b]? = some (.cells #[x] t (0, 0))) : SliceIs w (.slice (some ⟨b, 0, none⟩) 1 1) 1 [x] :=
  .inr ⟨⟨b, 0, none⟩, 1, 1, rfl, Nat.le_refl _, by unfold maxLen; omega, rfl, fun i u hi => by
    match i, hi with
    | 0, hi => simp at hi; subst hi; simp [World.cell?, h, Addr.add]⟩
attribute [local irreducible] recL readL tAB
set_option maxRecDepth 100000 in
set_option maxHeartbeats 6400000 in
theorem taped_ok (E : Nat → Addr) (w : World) (hE : TEnv E w) : Calls Tryd.prog 5 #[] w fun e w' => e = .returned (.bool true) ∧ Below w.heap.size w w' := by
  have ND := Lib.hid (tnew_s (w0 := w) (w := w) ⟨#[]⟩ (Below.refl _ _) (by decide))
  have HE := Lib.hid hE
  have hAB := bs_AB
  clear hE
  go_enter Tryd.func5, Tryd.ntmps5
  go_wp2_with fail
  refine ND.out.mono ?_
  rintro e w1 ⟨db, rfl, ⟨F, h1, _⟩, _⟩
  have AP := tapp_s tAB h1 HE.out (by unfold tAB; decide) (by simp)
  obtain ⟨a1, a2⟩ := ap_of (d := ⟨(⟨#[]⟩ : ByteArray).data.toList, false, -1⟩) (s := tAB) (by unfold tAB; decide) (by rw [rec_AB]; simp) rfl rfl
  rw [a1, a2, ev_zero, bs_AB] at AP
  have e0 : (⟨#[]⟩ : ByteArray).data.toList ++ recL tAB = recL tAB := rfl
  rw [e0] at AP
  have HAP := Lib.hid AP
  clear AP a1 a2 h1 ND
  go_wp2_with fail
  refine HAP.out.mono ?_
  rintro e w2 ⟨rfl, F2, h2, _⟩
  have RC := trec_s h2 HE.out (by rw [rec_AB]; simp)
  simp only [rc_AB] at RC
  have HRC := Lib.hid RC
  clear RC
  clear h2 HAP
  go_wp2_with fail
  refine HRC.out.mono ?_
  rintro e w3 ⟨r, rfl, hown, F3, h3, _⟩
  have hS := Lib.hid (SliceIs.ownedK hown)
  have H3 := Lib.hid h3
  obtain ⟨ra, rc, rfl⟩ := owns_slice hown
  clear hown h3 HRC
  have HSH : Hid (∀ (w' : World), Below w3.heap.size w3 w' → TpS w w' F3 db (rcT ⟨recL tAB, false, -1⟩)) := Lib.hid fun w' b => H3.out.below b
  have hBY : Hid (bs (rcT ⟨recL tAB, false, -1⟩).b = ⟨#[51, 58, 97, 32, 98, 10, 46]⟩) := by
    refine Lib.hid ?_
    unfold rcT
    simp only [rc_AB]
    rw [rec_AB]
    unfold bs; rfl
  go_wp2_with fail
  have hn := heap_alloc_new w3 (.cells #[.string ⟨#[97, 32, 98]⟩] 9)
  have b4 := wb_alloc w3 (.cells #[.string ⟨#[97, 32, 98]⟩] 9)
  refine (sameTexts_is _ _ [tAB] [tAB] _ (hS.out.below b4) (by simpa [hAB] using one_strs hn)).mono ?_
  rintro e w5 ⟨rfl, b5⟩
  have b35 := below_trans' b4 (b5.below _)
  have T5 := HSH.out w5 b35
  have BY := tbytes_s T5
  rw [hBY.out] at BY
  have HBY := Lib.hid BY
  clear BY
  have hq : ([tAB] == [tAB]) = true := by simp
  have B5 := Lib.hid T5.bel
  clear hn b4 b5 b35 T5 hBY
  go_wp2_with fail
  refine HBY.out.mono ?_
  rintro e w6 ⟨rfl, rfl⟩
  go_wp2_with fail
  go_ret
  exact ⟨rfl, B5.out⟩
end Go.Proofs.YtomaojpldinmgaaDoor
