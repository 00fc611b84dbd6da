/- Contracts of patch.piece, patch.Apply. -/
import Derived.Test.YtphigoclkkgpoaaDoorOps2
import Derived.Test.YtphigoclkkgpoaaDoorBuild
import Derived.Test.YtphigoclkkgpoaaDoorSignLaws
namespace Go.Proofs.YtphigoclkkgpoaaDoor
open Go.RowKit

theorem pieceC_data {old : List UInt8} {size : Nat} {o : POp} (h : o.kind = kData) : pieceC old size o = (0, o.data) := by unfold pieceC; rw [if_pos h]
theorem pieceC_none {old : List UInt8} {size : Nat} {o : POp} (h : o.kind ≠ kData) (h2 : (cntOf size old.length : Int) < o.a + o.n) : pieceC old size o = (6, []) := by unfold pieceC; rw [if_neg h, if_pos h2]
theorem pieceC_copy {old : List UInt8} {size : Nat} {o : POp} (h : o.kind ≠ kData) (h2 : ¬ (cntOf size old.length : Int) < o.a + o.n) : pieceC old size o = (0, (old.drop (o.a.toNat * size)).take (o.n.toNat * size)) := by unfold pieceC; rw [if_neg h, if_neg h2]

theorem wrap_nat (m : Nat) (h : m ≤ 1000000000) : wrap64 (m : Int) = m := by
  have := IntWalk.wrap64_in (m : Int) (by omega)
  exact this
theorem mul_wrap (a size : Nat) (h : a * size ≤ 1000000000) : Value.int .i64 (wrap64 ((a : Int) * (size : Int))) = Value.int .i64 ((a * size : Nat) : Int) := by
  congr 1
  rw [← Int.natCast_mul]; exact wrap_nat _ h
theorem add_mul_wrap (a n size : Nat) (h : (a + n) * size ≤ 1000000000) : Value.int .i64 (wrap64 (((a : Int) + (n : Int)) * (size : Int))) = Value.int .i64 (((a + n) * size : Nat) : Int) := by
  congr 1
  rw [← Int.natCast_add, ← Int.natCast_mul]; exact wrap_nat _ h
theorem extract_piece (old : List UInt8) (p r q e : Nat) (hq : q = p + r) (he : e = q ∧ q ≤ old.length ∨ e = old.length ∧ old.length ≤ q) : (bs old).extract p e = bs ((old.drop p).take r) := by
  refine eq_bs ?_
  simp only [ByteArray.data_extract, Array.toList_extract, List.extract_eq_take_drop, bs_list]
  rcases he with ⟨h1, h2⟩ | ⟨h1, h2⟩
  · congr 1; omega
  · rw [List.take_of_length_le (by simp; omega), List.take_of_length_le (by simp; omega)]
set_option maxRecDepth 100000 in
set_option maxHeartbeats 1600000 in
theorem piece_any (E : Nat → Addr) (old : List UInt8) (size : Nat) (o : POp) (w : World) (hold : old.length ≤ 4000) (hs1 : 1 ≤ size) (hs2 : size ≤ 64) (ho : opC o = 0) (h6 : Has E w 6) :
    Calls Tryd.prog 71 #[.string (bs old), .int .i64 size, o.val] w fun e w' => e = .returned (.tuple #[.string (bs (pieceC old size o).2), ev E (pieceC old size o).1]) ∧ Below w.heap.size w w' := by
  have z6 : 7 < w.heap.size := World.block_lt_of_cell? w _ h6
  have c6 : w.cell? ⟨7, 0, none⟩ = some (errv (E 6)) := h6
  have HA := Lib.hid (fun o => below_alloc' w o)
  have V0 := Lib.hid (ev_zero E)
  have V6 := Lib.hid (ev_is E (c := 6) (by decide))
  clear h6
  have HK := opC_kind ho
  rcases HK with hk | hk
  · obtain ⟨hD, a1, a2, n1, n2⟩ := opC_copy ho hk
    clear hD
    have P1 := Lib.hid (fun h => pieceC_none (old := old) (size := size) (o := o) (by rw [hk]; exact kne.symm) h)
    have P2 := Lib.hid (fun h => pieceC_copy (old := old) (size := size) (o := o) (by rw [hk]; exact kne.symm) h)
    obtain ⟨K, a, n, D⟩ := o
    simp only [] at hk a1 a2 n1 n2 P1 P2
    obtain ⟨a, rfl⟩ : ∃ x : Nat, a = x := ⟨a.toNat, by omega⟩
    obtain ⟨n, rfl⟩ : ∃ x : Nat, n = x := ⟨n.toNat, by omega⟩
    have k2 := tl_ne K [100, 97, 116, 97] (by rw [hk, ← kData_is]; exact kne.symm)
    have z0 : ¬ size = 0 := by omega
    have hq : ((old.length : Int) + size - 1) / size = ((cntOf size old.length : Nat) : Int) := by
      unfold cntOf
      have : ((old.length + size - 1 : Nat) : Int) = (old.length : Int) + size - 1 := by omega
      rw [Int.natCast_ediv, this]
    unfold POp.val
    simp only []
    clear hk ho
    by_cases hc : ((cntOf size old.length : Nat) : Int) < (a : Int) + n
    · have HP := Lib.hid (P1.out hc)
      clear P1 P2
      go_enter Tryd.func71, Tryd.ntmps71
      go_wp2_with fail
      go_quiet (fail)
      go_wp2_with fail
      go_ret2
      exact ⟨ret2 (by rw [HP.out, bs_nil]; rfl) (by rw [HP.out, V6.out]; rfl), below_drewN (HA.out _) _⟩
    · have hp2 := P2.out hc
      have hcI : (a : Int) + n ≤ ((cntOf size old.length : Nat) : Int) := by omega
      have hac : a < cntOf size old.length := by clear hq; omega
      have HQ := Lib.hid hq
      clear hq
      have hal := cnt_lt (by omega) hac
      have hm2 : (a + n) * size = a * size + n * size := Nat.add_mul _ _ _
      have hm4 : n * size ≤ 4000 * 64 := Nat.mul_le_mul (by omega) hs2
      have e1 := mul_wrap a size (by omega)
      have e2 := add_mul_wrap a n size (by omega)
      have HX := Lib.hid (fun e he => extract_piece old (a * size) (n * size) ((a + n) * size) e hm2 he)
      rw [show ((a : Int)).toNat = a by omega, show ((n : Int)).toNat = n by omega] at hp2
      have HP2 := Lib.hid hp2
      have hpl : a * size ≤ old.length := by omega
      have hpq0 : a * size ≤ (a + n) * size := by omega
      clear P1 P2 hal hac hm2 hm4 hp2
      have hq := HQ.out
      generalize a * size = p at *
      generalize (a + n) * size = q at *
      generalize n * size = r at *
      by_cases hq2 : q ≤ old.length
      · have hq2I : (q : Int) ≤ old.length := by omega
        have e3 : Value.int .i64 (min (q : Int) (old.length : Int)) = Value.int .i64 q := by congr 1; omega
        have hpq : p ≤ q := hpq0
        have HX2 := Lib.hid (HX.out q (.inl ⟨rfl, hq2⟩))
        go_enter Tryd.func71, Tryd.ntmps71
        go_wp2_with fail
        go_ret2
        exact ⟨ret2 (by rw [HP2.out]; exact congrArg Value.string HX2.out) (by rw [HP2.out, V0.out]; rfl), HA.out _⟩
      · have e3 : Value.int .i64 (min (q : Int) (old.length : Int)) = Value.int .i64 old.length := by congr 1; omega
        have hpq : p ≤ old.length := hpl
        have HX2 := Lib.hid (HX.out old.length (.inr ⟨rfl, by omega⟩))
        go_enter Tryd.func71, Tryd.ntmps71
        go_wp2_with fail
        go_ret2
        exact ⟨ret2 (by rw [HP2.out]; exact congrArg Value.string HX2.out) (by rw [HP2.out, V0.out]; rfl), HA.out _⟩
  · have HP := Lib.hid (pieceC_data (old := old) (size := size) hk)
    have k2 := tl_eq o.kind [100, 97, 116, 97] (by rw [hk, ← kData_is])
    unfold POp.val
    clear hk ho
    go_enter Tryd.func71, Tryd.ntmps71
    go_wp2_with fail
    go_ret2
    exact ⟨ret2 (by rw [HP.out]; rfl) (by rw [HP.out, V0.out]; rfl), HA.out _⟩
end Go.Proofs.YtphigoclkkgpoaaDoor
