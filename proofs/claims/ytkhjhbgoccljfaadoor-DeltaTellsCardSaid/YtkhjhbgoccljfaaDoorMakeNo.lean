/- Contracts of delta.Make where it tells an error. -/
import Derived.Test.YtkhjhbgoccljfaaDoorMake
namespace Go.Proofs.YtkhjhbgoccljfaaDoor
open Go.RowKit
set_option linter.unusedVariables false

set_option maxRecDepth 100000 in
set_option maxHeartbeats 1600000 in
theorem make_no (E : Nat → Addr) (s0 : Option Addr) (n0 c0 : Nat) (l : List Blk) (size : Int) (s : ByteArray) (w : World) (hl : SliceIs w (.slice s0 n0 c0) 3 (bcells l)) (hB : Has E w 2) (hF : Has E w 8) (hck : (chk l size).1 ≠ 0) :
    Calls Tryd.prog 31 #[.slice s0 n0 c0, .int .i64 size, .string s] w fun e w' => ∃ v, e = .returned (.tuple #[.slice none 0 0, v]) ∧ FErr E w' v (chk l size).1 (chk l size).2 ∧ Below w.heap.size w w' := by
  have CH := Lib.hid (check_any E s0 n0 c0 l size w hl hB hF)
  have HC := Lib.hid hck
  clear hl hB hF hck
  go_enter Tryd.func31, Tryd.ntmps31
  go_wp2_with fail
  refine CH.out.mono ?_
  rintro e w1 ⟨v, rfl, fe, b1⟩
  obtain ⟨t, p, hv⟩ := fe.some HC.out
  have FE := Lib.hid fe
  clear fe
  rw [hv] at FE ⊢
  go_wp2_with fail
  go_ret2
  exact ⟨.iface t (.pointer (some p)), rfl, FE.out, b1⟩
set_option maxRecDepth 100000 in
set_option maxHeartbeats 1600000 in
theorem make_long (E : Nat → Addr) (s0 : Option Addr) (n0 c0 : Nat) (l : List Blk) (size : Int) (s : ByteArray) (w : World) (hl : SliceIs w (.slice s0 n0 c0) 3 (bcells l)) (hB : Has E w 2) (hF : Has E w 8) (hck : (chk l size).1 = 0) (hs : 4000 < s.size) :
    Calls Tryd.prog 31 #[.slice s0 n0 c0, .int .i64 size, .string s] w fun e w' => e = .returned (.tuple #[.slice none 0 0, ev E 2]) ∧ Below w.heap.size w w' := by
  have CH := Lib.hid (check_any E s0 n0 c0 l size w hl hB hF)
  have HC := Lib.hid hck
  have HB := Lib.hid hB
  have hI : (4000 : Int) < s.size := by omega
  have HE := Lib.hid (ev_pos E (c := 2) (by decide))
  rw [HE.out]
  clear hl hB hF hck
  go_enter Tryd.func31, Tryd.ntmps31
  go_wp2_with fail
  refine CH.out.mono ?_
  rintro e w1 ⟨v, rfl, fe, b1⟩
  rw [HC.out] at fe
  rw [fe.zero]
  clear fe
  have c2 : w1.cell? ⟨0, 0, none⟩ = some (errv (E 2)) := HB.out.below b1
  unfold errv at c2
  go_wp2_with fail
  first
  | (go_ret2; exact ⟨rfl, b1⟩)
  | (go_quiet (fail); go_wp2_with fail; go_ret2; exact ⟨rfl, below_drewN b1 _⟩)
end Go.Proofs.YtkhjhbgoccljfaaDoor
