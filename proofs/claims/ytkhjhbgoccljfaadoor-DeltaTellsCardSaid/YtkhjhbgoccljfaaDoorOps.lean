/- Contracts of ops: delta.check, Check, Cost; the statements' longOps, ownOps. -/
import Derived.Test.YtkhjhbgoccljfaaDoorFault
import Derived.Test.YtkhjhbgoccljfaaDoorOpPlain
import Derived.Test.YtkhjhbgoccljfaaDoorSignText
namespace Go.Proofs.YtkhjhbgoccljfaaDoor
open Go.RowKit

theorem within_yes (n l : Int) (w : World) (h : l ≤ n ∧ n ≤ 4000) : Calls Tryd.prog 79 #[.int .i64 n, .int .i64 l] w fun e w' => e = .returned (.bool true) ∧ w = w' := by
  obtain ⟨h1, h2⟩ := h
  go_enter Tryd.func79, Tryd.ntmps79
  go_wp2_with fail
  go_ret
  exact ⟨by first | rfl | exact ret_bool (by simp [*]), rfl⟩
theorem within_no (n l : Int) (w : World) (h : ¬ (l ≤ n ∧ n ≤ 4000)) : Calls Tryd.prog 79 #[.int .i64 n, .int .i64 l] w fun e w' => e = .returned (.bool false) ∧ w = w' := by
  have h' : n < l ∨ l ≤ n ∧ 4000 < n := by omega
  clear h
  rcases h' with h1 | ⟨h1, h2⟩
  all_goals
    go_enter Tryd.func79, Tryd.ntmps79
    go_wp2_with fail
    go_ret
    exact ⟨by first | rfl | exact ret_bool (by simp [*]), rfl⟩

def POp.val (o : POp) : Value := .agg #[.string (bs o.kind), .int .i64 o.a, .int .i64 o.n, .string (bs o.data)]
theorem bs_kCopy : bs kCopy = ⟨#[99, 111, 112, 121]⟩ := by rw [kCopy_is]; unfold bs; rfl
theorem bs_kData : bs kData = ⟨#[100, 97, 116, 97]⟩ := by rw [kData_is]; unfold bs; rfl
theorem bsapp (a b : List UInt8) : bs a ++ bs b = bs (a ++ b) := eq_bs (by simp)
theorem tl_eq (a b : List UInt8) (h : a = b) : ((bs a).toList == b) = true := by simp [ByteArray.toList_eq, h]
theorem tl_ne (a b : List UInt8) (h : a ≠ b) : ((bs a).toList == b) = false := by simp [ByteArray.toList_eq, h]
theorem tl_em (a : List UInt8) (h : a = []) : (bs a).toList.isEmpty = true := by simp [ByteArray.toList_eq, h]
theorem tl_nem (a : List UInt8) (h : a ≠ []) : (bs a).toList.isEmpty = false := by simp [ByteArray.toList_eq, h]

set_option maxRecDepth 100000 in
set_option maxHeartbeats 3200000 in
theorem opcheck_any (E : Nat → Addr) (o : POp) (w : World) (h2 : Has E w 2) (h3 : Has E w 3) (h4 : Has E w 4) :
    Calls Tryd.prog 65 #[o.val] w fun e w' => e = .returned (ev E (opC o)) ∧ Below w.heap.size w w' := by
  have z2 : 0 < w.heap.size := World.block_lt_of_cell? w _ h2
  have z3 : 5 < w.heap.size := World.block_lt_of_cell? w _ h3
  have z4 : 6 < w.heap.size := World.block_lt_of_cell? w _ h4
  have c2 : w.cell? ⟨0, 0, none⟩ = some (errv (E 2)) := h2
  have c3 : w.cell? ⟨5, 0, none⟩ = some (errv (E 3)) := h3
  have c4 : w.cell? ⟨6, 0, none⟩ = some (errv (E 4)) := h4
  have HA := Lib.hid (fun o => below_alloc' w o)
  have V0 := Lib.hid (ev_zero E)
  have V2 := Lib.hid (ev_is E (c := 2) (by decide))
  have V3 := Lib.hid (ev_is E (c := 3) (by decide))
  have V4 := Lib.hid (ev_is E (c := 4) (by decide))
  clear h2 h3 h4
  have H1 := Lib.hid (fun h1 h2 => opC_shape (o := o) h1 h2)
  have H2 := Lib.hid (fun h1 h2 h3 => opC_bound (o := o) h1 h2 h3)
  have H3 := Lib.hid (fun h1 h2 h3 => opC_fine (o := o) h1 h2 h3)
  have H4 := Lib.hid (fun h0 h1 h2 => opD_shape (o := o) h0 h1 h2)
  have H5 := Lib.hid (fun h0 h1 h2 h3 => opD_bound (o := o) h0 h1 h2 h3)
  have H6 := Lib.hid (fun h0 h1 h2 h3 => opD_fine (o := o) h0 h1 h2 h3)
  have H7 := Lib.hid (fun h0 h1 => opK (o := o) h0 h1)
  generalize opC o = c at *
  obtain ⟨K, a, n, D⟩ := o
  unfold POp.val
  simp only [] at H1 H2 H3 H4 H5 H6 H7 ⊢
  by_cases hk : K = kCopy
  · have k1 := tl_eq K [99, 111, 112, 121] (by rw [hk, kCopy_is])
    by_cases hd : D = []
    · have d1 := tl_eq D [] hd
      have d2 := tl_em D hd
      by_cases ha : 0 ≤ a ∧ a ≤ 4000
      · have WA := Lib.hid (fun w => within_yes a 0 w ha)
        by_cases hn : 1 ≤ n ∧ n ≤ 4000
        · have WN := Lib.hid (fun w => within_yes n 1 w hn)
          have HC := Lib.hid (H3.out hk hd ⟨ha, hn⟩)
          clear H1 H2 H3 H4 H5 H6 H7 hk hd ha hn
          go_enter Tryd.func65, Tryd.ntmps65
          go_wp2_with fail
          refine (WA.out _).mono ?_
          rintro e w1 ⟨rfl, rfl⟩
          go_wp2_with fail
          refine (WN.out _).mono ?_
          rintro e w1 ⟨rfl, rfl⟩
          go_wp2_with fail
          go_ret
          exact ⟨by rw [HC.out, V0.out]; rfl, HA.out _⟩
        · have WN := Lib.hid (fun w => within_no n 1 w hn)
          have HC := Lib.hid (H2.out hk hd (fun h => hn h.2))
          clear H1 H2 H3 H4 H5 H6 H7 hk hd ha hn
          go_enter Tryd.func65, Tryd.ntmps65
          go_wp2_with fail
          refine (WA.out _).mono ?_
          rintro e w1 ⟨rfl, rfl⟩
          go_wp2_with fail
          refine (WN.out _).mono ?_
          rintro e w1 ⟨rfl, rfl⟩
          go_wp2_with fail
          go_ret
          exact ⟨by rw [HC.out, V2.out]; rfl, HA.out _⟩
      · have WA := Lib.hid (fun w => within_no a 0 w ha)
        have HC := Lib.hid (H2.out hk hd (fun h => ha h.1))
        clear H1 H2 H3 H4 H5 H6 H7 hk hd ha
        go_enter Tryd.func65, Tryd.ntmps65
        go_wp2_with fail
        refine (WA.out _).mono ?_
        rintro e w1 ⟨rfl, rfl⟩
        go_wp2_with fail
        go_ret
        exact ⟨by rw [HC.out, V2.out]; rfl, HA.out _⟩
    · have d1 := tl_ne D [] hd
      have d2 := tl_nem D hd
      have HC := Lib.hid (H1.out hk hd)
      clear H1 H2 H3 H4 H5 H6 H7 hk hd
      go_enter Tryd.func65, Tryd.ntmps65
      go_wp2_with fail
      go_ret
      exact ⟨by rw [HC.out, V3.out]; rfl, HA.out _⟩
  · have k1 := tl_ne K [99, 111, 112, 121] (by rw [← kCopy_is]; exact hk)
    by_cases hk2 : K = kData
    · have k2 := tl_eq K [100, 97, 116, 97] (by rw [hk2, kData_is])
      by_cases ha : a = 0
      · by_cases hn : n = 0
        · by_cases hl : 1 ≤ D.length ∧ D.length ≤ 4000
          · have WN := Lib.hid (fun w => within_yes D.length 1 w (by omega))
            have HC := Lib.hid (H6.out hk hk2 ⟨ha, hn⟩ hl)
            clear H1 H2 H3 H4 H5 H6 H7 hk hk2 hl
            subst ha hn
            go_enter Tryd.func65, Tryd.ntmps65
            go_wp2_with fail
            refine (WN.out _).mono ?_
            rintro e w1 ⟨rfl, rfl⟩
            go_wp2_with fail
            go_ret
            exact ⟨by rw [HC.out, V0.out]; rfl, HA.out _⟩
          · have WN := Lib.hid (fun w => within_no D.length 1 w (by omega))
            have HC := Lib.hid (H5.out hk hk2 ⟨ha, hn⟩ hl)
            clear H1 H2 H3 H4 H5 H6 H7 hk hk2 hl
            subst ha hn
            go_enter Tryd.func65, Tryd.ntmps65
            go_wp2_with fail
            refine (WN.out _).mono ?_
            rintro e w1 ⟨rfl, rfl⟩
            go_wp2_with fail
            go_ret
            exact ⟨by rw [HC.out, V2.out]; rfl, HA.out _⟩
        · have n1 : (n != 0) = true := by simp [hn]
          have HC := Lib.hid (H4.out hk hk2 (.inr hn))
          clear H1 H2 H3 H4 H5 H6 H7 hk hk2 hn
          subst ha
          go_enter Tryd.func65, Tryd.ntmps65
          go_wp2_with fail
          go_ret
          exact ⟨by rw [HC.out, V3.out]; rfl, HA.out _⟩
      · have a1 : (a != 0) = true := by simp [ha]
        have HC := Lib.hid (H4.out hk hk2 (.inl ha))
        clear H1 H2 H3 H4 H5 H6 H7 hk hk2 ha
        go_enter Tryd.func65, Tryd.ntmps65
        go_wp2_with fail
        go_ret
        exact ⟨by rw [HC.out, V3.out]; rfl, HA.out _⟩
    · have k2 := tl_ne K [100, 97, 116, 97] (by rw [← kData_is]; exact hk2)
      have HC := Lib.hid (H7.out hk hk2)
      clear H1 H2 H3 H4 H5 H6 H7 hk hk2
      go_enter Tryd.func65, Tryd.ntmps65
      go_wp2_with fail
      go_ret
      exact ⟨by rw [HC.out, V4.out]; rfl, HA.out _⟩
end Go.Proofs.YtkhjhbgoccljfaaDoor
