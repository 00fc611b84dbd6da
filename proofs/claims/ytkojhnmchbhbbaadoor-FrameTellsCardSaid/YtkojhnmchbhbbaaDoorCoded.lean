/- plain.Code of another error; the statements' coded and faulted. -/
import Derived.Test.YtkojhnmchbhbbaaDoorCode
namespace Go.Proofs.YtkojhnmchbhbbaaDoor
open Go.RowKit
set_option linter.unusedVariables false

set_option maxRecDepth 100000 in
set_option maxHeartbeats 6400000 in
theorem code_other (E : Nat → Addr) (p : Addr) (cp : Array Value) (tp : TypeId) (w : World) (hp : w.heap[p.block]? = some (.cells cp tp (0, 0))) (hne : ∀ k, 1 ≤ k → k ≤ 12 → p ≠ E k) (hE : Errs E w) :
    Calls Tryd.prog 51 #[.iface 163 (.pointer (some p))] w fun e w' => e = .returned (.tuple #[.int .i64 (-1), .int .i64 (-1)]) ∧ Below w.heap.size w w' := by
  have HEE := Lib.hid hE
  have HP := Lib.hid hp
  have HNE := Lib.hid hne
  have L1 := Lib.hid (fun (w' : World) (b : Below w.heap.size w w') => show w'.cell? ⟨2, 0, none⟩ = some (errv (E 1)) from (hE.below b).has 1 (by omega) (by omega))
  have L2 := Lib.hid (fun (w' : World) (b : Below w.heap.size w w') => show w'.cell? ⟨0, 0, none⟩ = some (errv (E 2)) from (hE.below b).has 2 (by omega) (by omega))
  have L3 := Lib.hid (fun (w' : World) (b : Below w.heap.size w w') => show w'.cell? ⟨5, 0, none⟩ = some (errv (E 3)) from (hE.below b).has 3 (by omega) (by omega))
  have L4 := Lib.hid (fun (w' : World) (b : Below w.heap.size w w') => show w'.cell? ⟨4, 0, none⟩ = some (errv (E 4)) from (hE.below b).has 4 (by omega) (by omega))
  have L5 := Lib.hid (fun (w' : World) (b : Below w.heap.size w w') => show w'.cell? ⟨6, 0, none⟩ = some (errv (E 5)) from (hE.below b).has 5 (by omega) (by omega))
  have L6 := Lib.hid (fun (w' : World) (b : Below w.heap.size w w') => show w'.cell? ⟨7, 0, none⟩ = some (errv (E 6)) from (hE.below b).has 6 (by omega) (by omega))
  have L7 := Lib.hid (fun (w' : World) (b : Below w.heap.size w w') => show w'.cell? ⟨8, 0, none⟩ = some (errv (E 7)) from (hE.below b).has 7 (by omega) (by omega))
  have L8 := Lib.hid (fun (w' : World) (b : Below w.heap.size w w') => show w'.cell? ⟨1, 0, none⟩ = some (errv (E 8)) from (hE.below b).has 8 (by omega) (by omega))
  have L9 := Lib.hid (fun (w' : World) (b : Below w.heap.size w w') => show w'.cell? ⟨9, 0, none⟩ = some (errv (E 9)) from (hE.below b).has 9 (by omega) (by omega))
  have L10 := Lib.hid (fun (w' : World) (b : Below w.heap.size w w') => show w'.cell? ⟨3, 0, none⟩ = some (errv (E 10)) from (hE.below b).has 10 (by omega) (by omega))
  have L11 := Lib.hid (fun (w' : World) (b : Below w.heap.size w w') => show w'.cell? ⟨10, 0, none⟩ = some (errv (E 11)) from (hE.below b).has 11 (by omega) (by omega))
  have L12 := Lib.hid (fun (w' : World) (b : Below w.heap.size w w') => show w'.cell? ⟨11, 0, none⟩ = some (errv (E 12)) from (hE.below b).has 12 (by omega) (by omega))
  have b0 := below_al w (.cells #[.pointer none] 126)
  have HAS := Lib.hid (as_miss p ⟨w.heap.size, 0, none⟩ _ (hE.below b0).hand)
  have hand0 : True := trivial
  clear hE hp hne
  go_enter Tryd.func51, Tryd.ntmps51
  go_wp2_with fail
  refine HAS.out.mono ?_
  rintro e w1 ⟨rfl, b1'⟩
  have b1 := below_trans' b0 b1'
  have c1 := L1.out _ b1
  have c2 := L2.out _ b1
  have c3 := L3.out _ b1
  have c4 := L4.out _ b1
  have c5 := L5.out _ b1
  have c6 := L6.out _ b1
  have c7 := L7.out _ b1
  have c8 := L8.out _ b1
  have c9 := L9.out _ b1
  have c10 := L10.out _ b1
  have c11 := L11.out _ b1
  have c12 := L12.out _ b1
  unfold errv at c1 c2 c3 c4 c5 c6 c7 c8 c9 c10 c11 c12
  clear L1 L2 L3 L4 L5 L6 L7 L8 L9 L10 L11 L12 hand0
  go_wp2_with fail
  have ROW := heap_alloc_new w1 (.cells #[.iface 163 (.pointer (some (E 1))), .iface 163 (.pointer (some (E 2))), .iface 163 (.pointer (some (E 3))), .iface 163 (.pointer (some (E 4))), .iface 163 (.pointer (some (E 5))), .iface 163 (.pointer (some (E 6))), .iface 163 (.pointer (some (E 7))), .iface 163 (.pointer (some (E 8))), .iface 163 (.pointer (some (E 9))), .iface 163 (.pointer (some (E 10))), .iface 163 (.pointer (some (E 11))), .iface 163 (.pointer (some (E 12)))] 30)
  have b2 := b1.alloc b1.size (.cells #[.iface 163 (.pointer (some (E 1))), .iface 163 (.pointer (some (E 2))), .iface 163 (.pointer (some (E 3))), .iface 163 (.pointer (some (E 4))), .iface 163 (.pointer (some (E 5))), .iface 163 (.pointer (some (E 6))), .iface 163 (.pointer (some (E 7))), .iface 163 (.pointer (some (E 8))), .iface 163 (.pointer (some (E 9))), .iface 163 (.pointer (some (E 10))), .iface 163 (.pointer (some (E 11))), .iface 163 (.pointer (some (E 12)))] 30)
  have hsz : w1.heap.size < (w1.alloc (.cells #[.iface 163 (.pointer (some (E 1))), .iface 163 (.pointer (some (E 2))), .iface 163 (.pointer (some (E 3))), .iface 163 (.pointer (some (E 4))), .iface 163 (.pointer (some (E 5))), .iface 163 (.pointer (some (E 6))), .iface 163 (.pointer (some (E 7))), .iface 163 (.pointer (some (E 8))), .iface 163 (.pointer (some (E 9))), .iface 163 (.pointer (some (E 10))), .iface 163 (.pointer (some (E 11))), .iface 163 (.pointer (some (E 12)))] 30)).heap.size := by simp
  clear c1 c2 c3 c4 c5 c6 c7 c8 c9 c10 c11 c12
  generalize w1.alloc (.cells #[.iface 163 (.pointer (some (E 1))), .iface 163 (.pointer (some (E 2))), .iface 163 (.pointer (some (E 3))), .iface 163 (.pointer (some (E 4))), .iface 163 (.pointer (some (E 5))), .iface 163 (.pointer (some (E 6))), .iface 163 (.pointer (some (E 7))), .iface 163 (.pointer (some (E 8))), .iface 163 (.pointer (some (E 9))), .iface 163 (.pointer (some (E 10))), .iface 163 (.pointer (some (E 11))), .iface 163 (.pointer (some (E 12)))] 30) = w2 at ROW b2 hsz ⊢
  have RW := Lib.hid (fun k hk => row12 (f := fun k => .iface 163 (.pointer (some (E k)))) ROW k hk)
  have E2 := Lib.hid (HEE.out.below b2)
  have V2 := Lib.hid (show w2.heap[p.block]? = some (.cells cp tp (0, 0)) from (b2.block _ (lt_of_block HP.out)).trans HP.out)
  clear ROW
  go_loop [30, 5, 6, 3] (fun i _ _ at' => ∃ k : Nat, i = .int .i64 k ∧ k ≤ 12 ∧ at' = .int .i64 (-1)) (fun i _ _ _ => 12 - (intOf i).toNat)
  case atStart => exact ⟨0, rfl, by omega, rfl⟩
  case round =>
    obtain ⟨k, rfl, hk, rfl⟩ := hrel
    by_cases hlt : k < 12
    · have hltI : (k : Int) < 12 := by omega
      have hcell := RW.out k hlt
      obtain ⟨cb, tb, hb⟩ := E2.out.sent (k + 1) (by omega) (by omega)
      have IS := Lib.hid (is_other p (E (k + 1)) cp cb tp tb w2 (HNE.out (k + 1) (by omega) (by omega)) V2.out hb)
      have x1 : (0 : Int) ≤ k := by omega
      have x2 : (k : Int).toNat = k := by omega
      have HCK := Lib.hid (show k + 1 ≤ 12 by omega)
      clear hb
      go_wp2_with fail
      refine IS.out.mono ?_
      rintro e w4 ⟨rfl, rfl⟩
      go_wp2_with fail
      go_round
      case rel => exact ⟨k + 1, by go_num, HCK.out, rfl⟩
      case measure => simp [intOf]; omega
    · have hltI : ¬ (k : Int) < 12 := by omega
      go_wp2_with fail
      go_ret2
      exact ⟨rfl, b2⟩

set_option maxRecDepth 100000 in
set_option maxHeartbeats 1600000 in
theorem coded_any (E : Nat → Addr) (v : Value) (c : Nat) (a : Int) (k : Int) (w : World) (h : FErr E w v c a) (hE : Errs E w) (hc : c ≤ 12) :
    Calls Tryd.prog 26 #[v, .int .i64 k] w fun e w' => e = .returned (.bool (decide ((c : Int) = k) && decide (a = -1))) ∧ Below w.heap.size w w' := by
  have CA := Lib.hid (code_any E v c a w h hE hc)
  clear h hE
  by_cases hk : (c : Int) = k
  · subst hk
    by_cases ha : a = -1
    · subst ha
      go_enter Tryd.func26, Tryd.ntmps26
      go_wp2_with (go_at_call 51; refine CA.out.mono ?_; rintro e w1 ⟨rfl, b1⟩)
      go_ret
      exact ⟨by simp, b1⟩
    · have h1 : (a == -1) = false := by simp [ha]
      have h2 : decide (a = -1) = false := by simp [ha]
      rw [h2]
      clear ha h2
      go_enter Tryd.func26, Tryd.ntmps26
      go_wp2_with (go_at_call 51; refine CA.out.mono ?_; rintro e w1 ⟨rfl, b1⟩)
      go_ret
      exact ⟨by simp, b1⟩
  · have h1 : ((c : Int) == k) = false := by simp [hk]
    have h2 : decide ((c : Int) = k) = false := by simp [hk]
    rw [h2]
    clear hk h2
    go_enter Tryd.func26, Tryd.ntmps26
    go_wp2_with (go_at_call 51; refine CA.out.mono ?_; rintro e w1 ⟨rfl, b1⟩)
    go_ret
    exact ⟨by simp, b1⟩

end Go.Proofs.YtkojhnmchbhbbaaDoor
