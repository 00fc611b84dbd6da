/- Names: the numbers of package api, and those of its errors, are those of the document. -/
import Derived.Test.YtmpikgkaoafclaaDoorCoded
import Derived.Test.YtmpikgkaoafclaaDoorSameInts
import Derived.Test.YtmpikgkaoafclaaDoorLit
namespace Go.Proofs.YtmpikgkaoafclaaDoor
open Go.RowKit
set_option linter.unusedVariables false

theorem errnew_any (s : ByteArray) (w : World) : Calls Tryd.prog 41 #[.string s] w fun e w' => e = .returned (.iface 133 (.pointer (some ⟨w.heap.size, 0, none⟩))) ∧ w' = w.alloc (.cells #[.string s] 135) := by
  go_enter Tryd.func41, Tryd.ntmps41
  go_wp2_with fail
  go_ret
  exact ⟨rfl, rfl⟩

set_option maxRecDepth 100000 in
set_option maxHeartbeats 6400000 in
theorem names_walk (E : Nat → Addr) (w : World) (hh : Hand w) (h1 : ∀ c ∈ [1, 2, 3, 4, 5, 6, 7, 8, 9, 10, 11, 12], Has E w c ∧ Sent w (E c)) (h2 : ∀ c ∈ [1, 2, 3, 4, 5, 6, 7, 8, 9, 10, 11, 12], ∀ c' ∈ [1, 2, 3, 4, 5, 6, 7, 8, 9, 10, 11, 12], c ≠ c' → E c ≠ E c') :
    Calls Tryd.prog 9 #[] w fun e w' => e = .returned (.bool true) ∧ Below w.heap.size w w' := by
  have hE := Errs.of hh h1 h2
  have HEE := Lib.hid hE
  have L1 := Lib.hid (fun (w' : World) (b : Below w.heap.size w w') => show w'.cell? ⟨0, 0, none⟩ = some (errv (E 1)) from (hE.below b).has 1 (by omega) (by omega))
  have L2 := Lib.hid (fun (w' : World) (b : Below w.heap.size w w') => show w'.cell? ⟨1, 0, none⟩ = some (errv (E 2)) from (hE.below b).has 2 (by omega) (by omega))
  have L3 := Lib.hid (fun (w' : World) (b : Below w.heap.size w w') => show w'.cell? ⟨2, 0, none⟩ = some (errv (E 3)) from (hE.below b).has 3 (by omega) (by omega))
  have L4 := Lib.hid (fun (w' : World) (b : Below w.heap.size w w') => show w'.cell? ⟨3, 0, none⟩ = some (errv (E 4)) from (hE.below b).has 4 (by omega) (by omega))
  have L5 := Lib.hid (fun (w' : World) (b : Below w.heap.size w w') => show w'.cell? ⟨4, 0, none⟩ = some (errv (E 5)) from (hE.below b).has 5 (by omega) (by omega))
  have L6 := Lib.hid (fun (w' : World) (b : Below w.heap.size w w') => show w'.cell? ⟨5, 0, none⟩ = some (errv (E 6)) from (hE.below b).has 6 (by omega) (by omega))
  have L7 := Lib.hid (fun (w' : World) (b : Below w.heap.size w w') => show w'.cell? ⟨6, 0, none⟩ = some (errv (E 7)) from (hE.below b).has 7 (by omega) (by omega))
  have L8 := Lib.hid (fun (w' : World) (b : Below w.heap.size w w') => show w'.cell? ⟨7, 0, none⟩ = some (errv (E 8)) from (hE.below b).has 8 (by omega) (by omega))
  have L9 := Lib.hid (fun (w' : World) (b : Below w.heap.size w w') => show w'.cell? ⟨8, 0, none⟩ = some (errv (E 9)) from (hE.below b).has 9 (by omega) (by omega))
  have L10 := Lib.hid (fun (w' : World) (b : Below w.heap.size w w') => show w'.cell? ⟨9, 0, none⟩ = some (errv (E 10)) from (hE.below b).has 10 (by omega) (by omega))
  have L11 := Lib.hid (fun (w' : World) (b : Below w.heap.size w w') => show w'.cell? ⟨10, 0, none⟩ = some (errv (E 11)) from (hE.below b).has 11 (by omega) (by omega))
  have L12 := Lib.hid (fun (w' : World) (b : Below w.heap.size w w') => show w'.cell? ⟨11, 0, none⟩ = some (errv (E 12)) from (hE.below b).has 12 (by omega) (by omega))
  clear hh h1 h2 hE
  have ROWI := fun (w' : World) => heap_alloc_new w' (.cells #[.int .i64 1099511627776, .int .i64 4000, .int .i64 64, .int .i64 12, .int .i64 20, .int .i64 20000, .int .i64 65536, .int .i64 32, .int .i64 2147483648, .int .i64 64, .int .i64 20, .int .i64 1048576, .int .i64 2000, .int .i64 80, .int .i64 16] 3)
  have SI := Lib.hid (fun (w' : World) h h' => sameInts_is (.slice (some ⟨w.heap.size, 0, none⟩) 15 15) (.slice (some ⟨w.heap.size + 1, 0, none⟩) 15 15) [1099511627776, 4000, 64, 12, 20, 20000, 65536, 32, 2147483648, 64, 20, 1048576, 2000, 80, 16] [1099511627776, 4000, 64, 12, 20, 20000, 65536, 32, 2147483648, 64, 20, 1048576, 2000, 80, 16] w' h h')
  have HI : Hid (SliceIs ((w.alloc (.cells #[.int .i64 1099511627776, .int .i64 4000, .int .i64 64, .int .i64 12, .int .i64 20, .int .i64 20000, .int .i64 65536, .int .i64 32, .int .i64 2147483648, .int .i64 64, .int .i64 20, .int .i64 1048576, .int .i64 2000, .int .i64 80, .int .i64 16] 3)).alloc (.cells #[.int .i64 1099511627776, .int .i64 4000, .int .i64 64, .int .i64 12, .int .i64 20, .int .i64 20000, .int .i64 65536, .int .i64 32, .int .i64 2147483648, .int .i64 64, .int .i64 20, .int .i64 1048576, .int .i64 2000, .int .i64 80, .int .i64 16] 3)) (.slice (some ⟨w.heap.size, 0, none⟩) 15 15) 1 ([1099511627776, 4000, 64, 12, 20, 20000, 65536, 32, 2147483648, 64, 20, 1048576, 2000, 80, 16].map (.int .i64)) ∧ SliceIs ((w.alloc (.cells #[.int .i64 1099511627776, .int .i64 4000, .int .i64 64, .int .i64 12, .int .i64 20, .int .i64 20000, .int .i64 65536, .int .i64 32, .int .i64 2147483648, .int .i64 64, .int .i64 20, .int .i64 1048576, .int .i64 2000, .int .i64 80, .int .i64 16] 3)).alloc (.cells #[.int .i64 1099511627776, .int .i64 4000, .int .i64 64, .int .i64 12, .int .i64 20, .int .i64 20000, .int .i64 65536, .int .i64 32, .int .i64 2147483648, .int .i64 64, .int .i64 20, .int .i64 1048576, .int .i64 2000, .int .i64 80, .int .i64 16] 3)) (.slice (some ⟨w.heap.size + 1, 0, none⟩) 15 15) 1 ([1099511627776, 4000, 64, 12, 20, 20000, 65536, 32, 2147483648, 64, 20, 1048576, 2000, 80, 16].map (.int .i64))) := by
    have h := ROWI (w.alloc (.cells #[.int .i64 1099511627776, .int .i64 4000, .int .i64 64, .int .i64 12, .int .i64 20, .int .i64 20000, .int .i64 65536, .int .i64 32, .int .i64 2147483648, .int .i64 64, .int .i64 20, .int .i64 1048576, .int .i64 2000, .int .i64 80, .int .i64 16] 3))
    rw [show (w.alloc (.cells #[.int .i64 1099511627776, .int .i64 4000, .int .i64 64, .int .i64 12, .int .i64 20, .int .i64 20000, .int .i64 65536, .int .i64 32, .int .i64 2147483648, .int .i64 64, .int .i64 20, .int .i64 1048576, .int .i64 2000, .int .i64 80, .int .i64 16] 3)).heap.size = w.heap.size + 1 by simp] at h
    exact ⟨(lit_slice 1 (ROWI w) rfl rfl (by decide)).below (below_al _ _), lit_slice 1 h rfl rfl (by decide)⟩
  have B2 := Lib.hid (below_trans' (below_al w (.cells #[.int .i64 1099511627776, .int .i64 4000, .int .i64 64, .int .i64 12, .int .i64 20, .int .i64 20000, .int .i64 65536, .int .i64 32, .int .i64 2147483648, .int .i64 64, .int .i64 20, .int .i64 1048576, .int .i64 2000, .int .i64 80, .int .i64 16] 3)) (below_al (w.alloc (.cells #[.int .i64 1099511627776, .int .i64 4000, .int .i64 64, .int .i64 12, .int .i64 20, .int .i64 20000, .int .i64 65536, .int .i64 32, .int .i64 2147483648, .int .i64 64, .int .i64 20, .int .i64 1048576, .int .i64 2000, .int .i64 80, .int .i64 16] 3)) (.cells #[.int .i64 1099511627776, .int .i64 4000, .int .i64 64, .int .i64 12, .int .i64 20, .int .i64 20000, .int .i64 65536, .int .i64 32, .int .i64 2147483648, .int .i64 64, .int .i64 20, .int .i64 1048576, .int .i64 2000, .int .i64 80, .int .i64 16] 3)))
  clear ROWI
  go_enter Tryd.func9, Tryd.ntmps9
  go_wp2_with fail
  refine (SI.out _ HI.out.1 HI.out.2).mono ?_
  rintro e w3 ⟨rfl, d3⟩
  have b3 := below_trans' B2.out (d3.below _)
  clear d3 SI HI B2
  have c1 := L1.out _ b3
  have c2 := L2.out _ b3
  have c3 := L3.out _ b3
  have c4 := L4.out _ b3
  have c5 := L5.out _ b3
  have c6 := L6.out _ b3
  have c7 := L7.out _ b3
  have c8 := L8.out _ b3
  have c9 := L9.out _ b3
  have c10 := L10.out _ b3
  have c11 := L11.out _ b3
  have c12 := L12.out _ b3
  unfold errv at c1 c2 c3 c4 c5 c6 c7 c8 c9 c10 c11 c12
  clear L1 L2 L3 L4 L5 L6 L7 L8 L9 L10 L11 L12
  go_wp2_with fail
  have ROW := heap_alloc_new w3 (.cells #[.iface 133 (.pointer (some (E 1))), .iface 133 (.pointer (some (E 2))), .iface 133 (.pointer (some (E 3))), .iface 133 (.pointer (some (E 4))), .iface 133 (.pointer (some (E 5))), .iface 133 (.pointer (some (E 6))), .iface 133 (.pointer (some (E 7))), .iface 133 (.pointer (some (E 8))), .iface 133 (.pointer (some (E 9))), .iface 133 (.pointer (some (E 10))), .iface 133 (.pointer (some (E 11))), .iface 133 (.pointer (some (E 12)))] 24)
  have b4 := b3.alloc b3.size (.cells #[.iface 133 (.pointer (some (E 1))), .iface 133 (.pointer (some (E 2))), .iface 133 (.pointer (some (E 3))), .iface 133 (.pointer (some (E 4))), .iface 133 (.pointer (some (E 5))), .iface 133 (.pointer (some (E 6))), .iface 133 (.pointer (some (E 7))), .iface 133 (.pointer (some (E 8))), .iface 133 (.pointer (some (E 9))), .iface 133 (.pointer (some (E 10))), .iface 133 (.pointer (some (E 11))), .iface 133 (.pointer (some (E 12)))] 24)
  clear c1 c2 c3 c4 c5 c6 c7 c8 c9 c10 c11 c12
  have hsz : w3.heap.size < (w3.alloc (.cells #[.iface 133 (.pointer (some (E 1))), .iface 133 (.pointer (some (E 2))), .iface 133 (.pointer (some (E 3))), .iface 133 (.pointer (some (E 4))), .iface 133 (.pointer (some (E 5))), .iface 133 (.pointer (some (E 6))), .iface 133 (.pointer (some (E 7))), .iface 133 (.pointer (some (E 8))), .iface 133 (.pointer (some (E 9))), .iface 133 (.pointer (some (E 10))), .iface 133 (.pointer (some (E 11))), .iface 133 (.pointer (some (E 12)))] 24)).heap.size := by simp
  generalize w3.alloc (.cells #[.iface 133 (.pointer (some (E 1))), .iface 133 (.pointer (some (E 2))), .iface 133 (.pointer (some (E 3))), .iface 133 (.pointer (some (E 4))), .iface 133 (.pointer (some (E 5))), .iface 133 (.pointer (some (E 6))), .iface 133 (.pointer (some (E 7))), .iface 133 (.pointer (some (E 8))), .iface 133 (.pointer (some (E 9))), .iface 133 (.pointer (some (E 10))), .iface 133 (.pointer (some (E 11))), .iface 133 (.pointer (some (E 12)))] 24) = w4 at ROW b4 hsz ⊢
  have RW := Lib.hid (fun (w' : World) (b : Below w4.heap.size w4 w') k hk => row12 (f := fun k => .iface 133 (.pointer (some (E k)))) ((b.block _ hsz).trans ROW) k hk)
  have EE := Lib.hid (fun (w' : World) (b : Below w4.heap.size w4 w') => (HEE.out.below b4).below b)
  have B4 := Lib.hid b4
  clear ROW b3 b4
  go_loopw [4, 5, 6] (fun i _ _ wr => ∃ k : Nat, i = .int .i64 k ∧ k ≤ 12 ∧ Below w4.heap.size w4 wr) (fun i _ _ _ => 12 - (intOf i).toNat)
  case atStart => exact ⟨0, rfl, by omega, Below.refl _ _⟩
  case round =>
    obtain ⟨k, rfl, hk, bel⟩ := hrel
    by_cases hlt : k < 12
    · have hltI : (k : Int) < 12 := by omega
      have hcell := RW.out wr bel k hlt
      have x1 : (0 : Int) ≤ k := by omega
      have x2 : (k : Int).toNat = k := by omega
      have HCK := Lib.hid (show k + 1 ≤ 12 by omega)
      have FN := FErr.new E wr (k + 1) (by omega) 7 wr.heap.size rfl (k + 1, (7 : Int)) rfl
      have b5 := bel.alloc bel.size (.cells #[.int .i64 7, .iface 133 (.pointer (some (E (k + 1))))] 68)
      have CA := Lib.hid (code_any E _ (k + 1) 7 _ FN (EE.out _ b5) (by omega))
      have B5 := Lib.hid b5
      clear FN b5
      go_wp2_with fail
      refine CA.out.mono ?_
      rintro e w6 ⟨rfl, b6⟩
      have b46 := below_trans' B5.out b6
      have hcell := RW.out w6 b46 k hlt
      have CD := coded_any E (errv (E (k + 1))) (k + 1) (-1) ((k : Int) + 1) w6 (FErr.bare E w6 (by omega)) (EE.out _ b46) (by omega)
      have e1 : decide (((k + 1 : Nat) : Int) = (k : Int) + 1) = true := by simp
      rw [e1] at CD
      unfold errv at CD
      have HCD := Lib.hid CD
      clear CD b6 bel e1 CA
      have e2 : (((k + 1 : Nat) : Int) != (k : Int) + 1) = false := by simp
      go_wp2_with (go_at_call 40; refine HCD.out.mono ?_; rintro e w7 ⟨rfl, b7⟩)
      have b47 := below_trans' b46 b7
      clear b46 b7
      go_roundw
      case rel => exact ⟨k + 1, by go_num, HCK.out, b47⟩
      case measure => simp [intOf]; omega
    · have hltI : ¬ (k : Int) < 12 := by omega
      have EW := EE.out wr bel
      have b8 := below_al wr (.cells #[.string ⟨#[97, 110, 111, 116, 104, 101, 114, 32, 111, 110, 101]⟩] 135)
      have CO := Lib.hid (code_other E ⟨wr.heap.size, 0, none⟩ #[.string ⟨#[97, 110, 111, 116, 104, 101, 114, 32, 111, 110, 101]⟩] 135 _ (heap_alloc_new wr _) (fun k h1 h2 e => by
        obtain ⟨cs, t, hb⟩ := EW.sent k h1 h2
        have := lt_of_block hb
        rw [← e] at this
        exact absurd this (by simp)) (EW.below b8))
      have B8 := Lib.hid (below_trans' bel b8)
      clear b8 EW bel
      go_wp2_with (go_at_call 41; refine (errnew_any _ _).mono ?_; rintro e w8 ⟨rfl, rfl⟩)
      refine CO.out.mono ?_
      rintro e w9 ⟨rfl, b9⟩
      have b49 := below_trans' B8.out b9
      have CN := coded_any E .nilIface 0 (-1) 0 w9 (FErr.nil E w9) (EE.out _ b49) (by omega)
      have HCN := Lib.hid CN
      clear CN b9
      go_wp2_with (go_at_call 40; refine HCN.out.mono ?_; rintro e w10 ⟨rfl, b10⟩)
      go_ret
      exact ⟨rfl, B4.out.trans ((below_trans' b49 b10).mono B4.out.size)⟩
end Go.Proofs.YtmpikgkaoafclaaDoor
