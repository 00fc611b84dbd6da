/- Contracts of the document's frames: Low, FrameError. -/
import Derived.Test.YtkojhnmchbhbbaaDoorRefNum
import Derived.Test.YtkojhnmchbhbbaaDoorRefTextOf
import Derived.Test.YtkojhnmchbhbbaaDoorFrEnc
import Derived.Deep.RegionHeld3
namespace Go.Proofs.YtkojhnmchbhbbaaDoor
open Go.RowKit
set_option linter.unusedVariables false

set_option maxRecDepth 100000 in
set_option maxHeartbeats 1600000 in
theorem rlow_any (v : Nat) (w : World) (hv : v < 4294967296) : Calls Tryd.prog 56 #[.int .i64 v] w fun e w' => e = .returned (.string (bs (lowL v))) ∧ Below w.heap.size w w' := by
  have m0 : ((UInt8.ofNat (v % 256)).toNat : Int) = (v : Int) % 256 := by rw [byte_ofNat _ (by omega)]; omega
  have m1 : ((UInt8.ofNat (v / 256 % 256)).toNat : Int) = (v : Int) / 256 % 256 := by rw [byte_ofNat _ (by omega)]; omega
  have m2 : ((UInt8.ofNat (v / 65536 % 256)).toNat : Int) = (v : Int) / 65536 % 256 := by rw [byte_ofNat _ (by omega)]; omega
  have m3 : ((UInt8.ofNat (v / 16777216 % 256)).toNat : Int) = (v : Int) / 16777216 := by rw [byte_ofNat _ (by omega)]; omega
  have R0 := fun w' => rbyte_any (UInt8.ofNat (v % 256)) w'
  have R1 := fun w' => rbyte_any (UInt8.ofNat (v / 256 % 256)) w'
  have R2 := fun w' => rbyte_any (UInt8.ofNat (v / 65536 % 256)) w'
  have R3 := fun w' => rbyte_any (UInt8.ofNat (v / 16777216 % 256)) w'
  rw [m0] at R0
  rw [m1] at R1
  rw [m2] at R2
  rw [m3] at R3
  have Q0 := Lib.hid R0
  have Q1 := Lib.hid R1
  have Q2 := Lib.hid R2
  have Q3 := Lib.hid R3
  clear R0 R1 R2 R3 m0 m1 m2 m3
  go_enter Tryd.func56, Tryd.ntmps56
  go_wp2_with fail
  refine (Q0.out _).mono ?_
  rintro e w1 ⟨rfl, b1⟩
  go_wp2_with fail
  refine (Q1.out _).mono ?_
  rintro e w2 ⟨rfl, b2⟩
  go_wp2_with fail
  refine (Q2.out _).mono ?_
  rintro e w3 ⟨rfl, b3⟩
  go_wp2_with fail
  refine (Q3.out _).mono ?_
  rintro e w4 ⟨rfl, b4⟩
  go_wp2_with fail
  go_ret
  exact ⟨by rw [bs_add, bs_add, bs_add]; rfl, below_trans' (below_trans' (below_trans' b1 b2) b3) b4⟩
set_option maxRecDepth 100000 in
set_option maxHeartbeats 1600000 in
theorem rfrerr_any (f : PFr) (w : World) : Calls Tryd.prog 31 #[f.val] w fun e w' => e = .returned (.int .i64 (frC f)) ∧ Below w.heap.size w w' := by
  have HA := Lib.hid (fun o => below_alloc' w o)
  have K := Lib.hid (frC_kind (f := f))
  have F := Lib.hid (frC_fine (f := f))
  have B := Lib.hid (frC_bound (f := f))
  rw [PFr.val_is]
  obtain ⟨k, e, q, d⟩ := f
  simp only [] at K F B ⊢
  have hk := k.toNat_lt
  rcases (show ((k.toNat : Int) < 97 ∨ ¬ (k.toNat : Int) < 97 ∧ (122 : Int) < k.toNat) ∨ (¬ (k.toNat : Int) < 97 ∧ ¬ (122 : Int) < k.toNat) by omega) with (h | ⟨h, h'⟩) | ⟨h, h'⟩
  · have HC := Lib.hid (K.out (by omega))
    clear K F B
    go_enter Tryd.func31, Tryd.ntmps31
    go_wp2_with fail
    go_ret
    exact ⟨by rw [HC.out]; rfl, HA.out _⟩
  · have HC := Lib.hid (K.out (by omega))
    clear K F B
    go_enter Tryd.func31, Tryd.ntmps31
    go_wp2_with fail
    go_ret
    exact ⟨by rw [HC.out]; rfl, HA.out _⟩
  · by_cases hf : (0 ≤ e ∧ e ≤ 2147483648) ∧ (0 ≤ q ∧ q < 65536) ∧ d.length ≤ 20000
    · have HC := Lib.hid (F.out (by omega) hf)
      obtain ⟨⟨f1, f2⟩, ⟨f3, f4⟩, f5⟩ := hf
      have f6 : ¬ (20000 : Int) < d.length := by omega
      clear K F B
      go_enter Tryd.func31, Tryd.ntmps31
      go_wp2_with fail
      go_ret
      exact ⟨by rw [HC.out]; rfl, HA.out _⟩
    · have HC := Lib.hid (B.out (by omega) hf)
      clear K F B
      rcases (show e < 0 ∨ ¬ e < 0 ∧ 2147483648 < e ∨ (¬ e < 0 ∧ ¬ 2147483648 < e) ∧ q < 0 ∨ (¬ e < 0 ∧ ¬ 2147483648 < e) ∧ ¬ q < 0 ∧ 65536 ≤ q ∨ (¬ e < 0 ∧ ¬ 2147483648 < e) ∧ (¬ q < 0 ∧ ¬ 65536 ≤ q) ∧ (20000 : Int) < d.length by omega) with g | ⟨g, g1⟩ | ⟨⟨g, g1⟩, g2⟩ | ⟨⟨g, g1⟩, g2, g3⟩ | ⟨⟨g, g1⟩, ⟨g2, g3⟩, g4⟩
      all_goals
        clear hf
        go_enter Tryd.func31, Tryd.ntmps31
        go_wp2_with fail
        go_ret
        exact ⟨by rw [HC.out]; rfl, HA.out _⟩
set_option maxRecDepth 100000 in
set_option maxHeartbeats 3200000 in
theorem rfrtext_any (f : PFr) (hf : frC f = 0) (w : World) : Calls Tryd.prog 33 #[f.val] w fun e w' => e = .returned (.string (bs (frT f))) ∧ Below w.heap.size w w' := by
  obtain ⟨hk, ⟨he1, he2⟩, ⟨hq1, hq2⟩, hd⟩ := frC_zero hf
  have hs : (frB f).length ≤ 100000 := by
    rw [frB_is]
    have := num_len f.e.toNat
    have := num_len f.q.toNat
    have := num_len f.d.length
    simp only [List.length_cons, List.length_append]; omega
  have HT := Lib.hid (frT_is f)
  have HB := Lib.hid (frB_eq f)
  rw [PFr.val_is]
  obtain ⟨k, e, q, d⟩ := f
  simp only [] at HT HB he1 he2 hq1 hq2 hd hs ⊢
  obtain ⟨e, rfl⟩ := Int.eq_ofNat_of_zero_le he1
  obtain ⟨q, rfl⟩ := Int.eq_ofNat_of_zero_le hq1
  simp only [Int.toNat_natCast] at HB
  have RB := Lib.hid (fun w' => rbyte_any k w')
  have hbe : e ≤ 1099511627776 := by omega
  have hbq : q ≤ 1099511627776 := by omega
  have RC := fun w' => rcounted_any (bs d) w' (by rw [bs_size]; omega)
  simp only [bs_size, bs_list] at RC
  have HRC := Lib.hid RC
  have SU := fun w' => sumOf_any (bs (frB ⟨k, e, q, d⟩)) w' (by rw [bs_size]; exact hs)
  simp only [bs_list] at SU
  have HSU := Lib.hid SU
  have LW := Lib.hid (fun w' => rlow_any (csum (frB ⟨k, e, q, d⟩)) w' (csum_lt _))
  have HA := Lib.hid (below_alloc' w (.cells #[.int .u8 k.toNat, .int .i64 e, .int .i64 q, .string (bs d)] 49))
  have hz : (w.alloc (.cells #[.int .u8 k.toNat, .int .i64 e, .int .i64 q, .string (bs d)] 49)).heap[w.heap.size]? = some (.cells #[.int .u8 k.toNat, .int .i64 e, .int .i64 q, .string (bs d)] 49 (0, 0)) := heap_alloc_new _ _
  have hkw : IntKind.i64.wrap (k.toNat : Int) = k.toNat := IntWalk.i64_in _ (by have := k.toNat_lt; omega)
  have nl1 := num_len e
  have nl2 := num_len q
  have nl3 := num_len d.length
  have s1 : ¬ 9223372036854775807 < 1 + (num e).length := by omega
  have s2 : ¬ 9223372036854775807 < 1 + (num e).length + (num q).length := by omega
  have s3 : ¬ 9223372036854775807 < 1 + (num e).length + (num q).length + ((num d.length).length + d.length) := by omega
  clear hf RC SU he1 hq1 hk nl1 nl2 nl3
  go_enter Tryd.func33, Tryd.ntmps33
  go_wp2_with fail
  generalize w.alloc (.cells #[.int .u8 k.toNat, .int .i64 e, .int .i64 q, .string (bs d)] 49) = w1 at *
  have BR := Below.refl w1.heap.size w1
  have DD : Hid (∀ w' : World, Below w1.heap.size w1 w' → ((w'.cell? ⟨w.heap.size, 0, none⟩ = some (.int .u8 k.toNat) ∧ w'.cell? ⟨w.heap.size, 1, none⟩ = some (.int .i64 e) ∧ w'.cell? ⟨w.heap.size, 2, none⟩ = some (.int .i64 q) ∧ w'.cell? ⟨w.heap.size, 3, none⟩ = some (.string (bs d))) ∧ Below w1.heap.size w1 w')) := fun w' b => by
    have h := (b.block w.heap.size (lt_of_block hz)).trans hz
    refine ⟨⟨?_, ?_, ?_, ?_⟩, b⟩ <;> simp [World.cell?, h]
  have Sa := DD.out w1 BR
  have SF := Lib.hid (show ∀ w' : World, Below w1.heap.size w1 w' → Below w.heap.size w w' from fun w' b => below_trans' HA.out b)
  clear hz
  go_region_held3 (fun w' => (w'.cell? ⟨w.heap.size, 0, none⟩ = some (.int .u8 k.toNat) ∧ w'.cell? ⟨w.heap.size, 1, none⟩ = some (.int .i64 e) ∧ w'.cell? ⟨w.heap.size, 2, none⟩ = some (.int .i64 q) ∧ w'.cell? ⟨w.heap.size, 3, none⟩ = some (.string (bs d))) ∧ Below w1.heap.size w1 w') (first | assumption | exact Sa | exact DD.out _ (by assumption) | exact DD.out _ (Below.drew BR))
    (first
    | (go_at_call 53; refine (RB.out _).mono ?_; rintro e1 wk ⟨rfl, bk⟩; have bbk := below_trans' (by first | assumption | exact Below.drew BR) bk; have SSk := DD.out _ bbk)
    | (go_at_call 54; refine (rnumtext_any _ _ ?_).mono ?_; (first | exact hbe | exact hbq); rintro e2 wl ⟨rfl, bl⟩; have bbl := below_trans' (by assumption) bl; have SSl := DD.out _ bbl)
    | (go_at_call 55; refine (HRC.out _).mono ?_; rintro e4 wn ⟨rfl, bn⟩; have bbn := below_trans' (by assumption) bn; have SSn := DD.out _ bbn))
  have HTX := Lib.hid (show bs [k] ++ bs (num e) ++ bs (num q) ++ bs (num d.length ++ d) = bs (frB ⟨k, e, q, d⟩) by rw [bs_add, bs_add, bs_add, HB.out]; simp)
  have b0n := SF.out _ bbn
  have st : (frB ⟨k, e, q, d⟩).length + 4 ≤ 100004 := by omega
  have sm : ¬ 9223372036854775807 < (frB ⟨k, e, q, d⟩).length + 4 := by omega
  have sm' : ¬ 9223372036854775807 < (frB ⟨k, e, q, d⟩).length + (lowL (csum (frB ⟨k, e, q, d⟩))).length := by rw [lowL_len]; exact sm
  clear BR DD Sa SF SSk SSl SSn bbk bbl bbn bk bl bn s1 s2 s3 hkw hbe hbq HB
  rw [HTX.out]
  clear HTX
  go_wp2_with fail
  refine (HSU.out _).mono ?_
  rintro e5 wo ⟨rfl, rfl⟩
  go_wp2_with fail
  refine (LW.out _).mono ?_
  rintro e6 wp ⟨rfl, bp⟩
  go_wp2_with fail
  go_ret
  exact ⟨by rw [bs_add, HT.out]; rfl, below_trans' b0n bp⟩
end Go.Proofs.YtkojhnmchbhbbaaDoor
