/- Contracts: the reference's SameOps; the statements' OwnBlocks. -/
import Derived.Test.YtkhjhbgoccljfaaDoorOps2
import Derived.Test.YtkhjhbgoccljfaaDoorSignRead
namespace Go.Proofs.YtkhjhbgoccljfaaDoor
open Go.RowKit
set_option linter.unusedVariables false

def sameO (a b : List POp) : Bool := decide (a = b)
theorem sameO_yes {a b : List POp} (h : a = b) : sameO a b = true := by simp [sameO, h]
theorem sameO_no {a b : List POp} (h : a ≠ b) : sameO a b = false := by simp [sameO, h]
attribute [irreducible] sameO
theorem bs_ne {a b : List UInt8} (h : a ≠ b) : ((bs a).toList == (bs b).toList) = false := by simp [ByteArray.toList_eq, h]
theorem bs_sne {a b : List UInt8} (h : a ≠ b) : (!((bs a).toList == (bs b).toList)) = true := by simp [ByteArray.toList_eq, h]

set_option maxRecDepth 100000 in
set_option maxHeartbeats 3200000 in
theorem sameOps_any (s0 : Option Addr) (n0 c0 : Nat) (s1 : Option Addr) (n1 c1 : Nat) (la lb : List POp) (w : World) (ha : SliceIs w (.slice s0 n0 c0) 4 (ocells la)) (hb : SliceIs w (.slice s1 n1 c1) 4 (ocells lb)) :
    Calls Tryd.prog 33 #[.slice s0 n0 c0, .slice s1 n1 c1] w fun e w' => e = .returned (.bool (sameO la lb)) ∧ Drew w w' := by
  obtain ⟨rfl, hc0, hc1⟩ := ops_len ha
  obtain ⟨rfl, hd0, hd1⟩ := ops_len hb
  have HA := Lib.hid ha
  have HBB := Lib.hid hb
  clear ha hb
  by_cases hl : la.length = lb.length
  · have hlI : ((la.length : Int) != (lb.length : Int)) = false := by simp; omega
    have HL := Lib.hid hl
    clear hl
    go_enter Tryd.func33, Tryd.ntmps33
    go_wp2_with fail
    clear hlI
    go_loopw [5] (fun i wr => ∃ k : Nat, i = .int .i64 k ∧ k ≤ la.length ∧ la.take k = lb.take k ∧ Drew w wr) (fun i _ => la.length - (intOf i).toNat)
    case atStart => exact ⟨0, rfl, by omega, by simp, Drew.refl _⟩
    case round =>
      obtain ⟨k, rfl, hk, hpre, m, rfl⟩ := hrel
      by_cases hlt : k < la.length
      · have hltI : (k : Int) < la.length := by omega
        have hlt2 : k < lb.length := by have := HL.out; omega
        have hlt2I : (k : Int) < lb.length := by omega
        obtain ⟨ad, rfl, d0, d1, d2, d3⟩ := ops_cells HA.out k hlt
        obtain ⟨bd, rfl, e0, e1, e2, e3⟩ := ops_cells HBB.out k hlt2
        have NEXT := Lib.hid (fun h => take_ext k hpre hlt hlt2 h)
        have BAD : Hid (la[k] ≠ lb[k] → sameO la lb = false) := fun h => sameO_no (fun e => h (by subst e; rfl))
        have KK := Lib.hid (show k + 1 ≤ la.length by omega)
        have x1 : (0 : Int) ≤ k := by omega
        have x2 : (k : Int).toNat = k := by omega
        clear hpre
        generalize la[k] = p at d0 d1 d2 d3 NEXT BAD
        generalize lb[k] = q at e0 e1 e2 e3 NEXT BAD
        obtain ⟨pk, pa, pn, pd⟩ := p
        obtain ⟨qk, qa, qn, qd⟩ := q
        simp only [] at d0 d1 d2 d3 e0 e1 e2 e3
        by_cases q1 : pk = qk
        · by_cases q2 : pa = qa
          · by_cases q3 : pn = qn
            · by_cases q4 : pd = qd
              · have N := Lib.hid (NEXT.out (by rw [q1, q2, q3, q4]))
                subst q1 q2 q3 q4
                clear NEXT BAD
                go_wp2_with fail
                go_quiet (fail)
                go_wp2_with fail
                go_roundw
                case rel => exact ⟨k + 1, by go_num, KK.out, N.out, by first | exact Drew.drewN _ _ | exact (Drew.drewN _ _).trans (Drew.drewN _ _)⟩
                case measure => simp [intOf]; omega
              · have N := Lib.hid (BAD.out (by intro h; cases h; exact q4 rfl))
                have q4b := bs_ne q4
                have q4c := bs_sne q4
                subst q1 q2 q3
                clear NEXT BAD q4
                go_wp2_with fail
                go_quiet (fail)
                go_wp2_with fail
                go_ret
                exact ⟨ret_bool N.out.symm, by first | exact Drew.drewN _ _ | exact (Drew.drewN _ _).trans (Drew.drewN _ _)⟩
            · have N := Lib.hid (BAD.out (by intro h; cases h; exact q3 rfl))
              have q3b : (pn != qn) = true := by simp [q3]
              subst q1 q2
              clear NEXT BAD q3
              go_wp2_with fail
              go_quiet (fail)
              go_wp2_with fail
              go_ret
              exact ⟨ret_bool N.out.symm, by first | exact Drew.drewN _ _ | exact (Drew.drewN _ _).trans (Drew.drewN _ _)⟩
          · have N := Lib.hid (BAD.out (by intro h; cases h; exact q2 rfl))
            have q2b : (pa != qa) = true := by simp [q2]
            subst q1
            clear NEXT BAD q2
            go_wp2_with fail
            go_quiet (fail)
            go_wp2_with fail
            go_ret
            exact ⟨ret_bool N.out.symm, by first | exact Drew.drewN _ _ | exact (Drew.drewN _ _).trans (Drew.drewN _ _)⟩
        · have N := Lib.hid (BAD.out (by intro h; cases h; exact q1 rfl))
          have q1b := bs_ne q1
          have q1c := bs_sne q1
          clear NEXT BAD q1
          go_wp2_with fail
          go_quiet (fail)
          go_wp2_with fail
          go_ret
          exact ⟨ret_bool N.out.symm, by first | exact Drew.drewN _ _ | exact (Drew.drewN _ _).trans (Drew.drewN _ _)⟩
      · have hltI : ¬ (k : Int) < la.length := by omega
        have N := Lib.hid (sameO_yes (show la = lb by
          have h1 : la.take k = la := List.take_of_length_le (by omega)
          have h2 : lb.take k = lb := List.take_of_length_le (by have := HL.out; omega)
          rw [← h1, ← h2]; exact hpre))
        clear hpre
        go_wp2_with fail
        go_ret
        exact ⟨ret_bool N.out.symm, Drew.drewN _ _⟩
  · have hlI : ((la.length : Int) != (lb.length : Int)) = true := by simp; omega
    have N := Lib.hid (sameO_no (fun e : la = lb => hl (by rw [e])))
    clear hl
    go_enter Tryd.func33, Tryd.ntmps33
    go_wp2_with fail
    go_ret
    exact ⟨ret_bool N.out.symm, Drew.refl _⟩

theorem blks_sl {w : World} {s0 : Option Addr} {n0 c0 : Nat} {l : List Blk} (hl : SliceIs w (.slice s0 n0 c0) 3 (bcells l)) : l.length = n0 ∧ c0 ≤ 9223372036854775807 ∧ n0 ≤ c0 := by
  obtain ⟨s0', n0', c0', e1, e2, e3, e4, _⟩ := hl.get
  cases e1
  rw [bcells_len] at e2
  unfold maxLen at e4
  exact ⟨by omega, by omega, e3⟩
set_option maxRecDepth 100000 in
set_option maxHeartbeats 1600000 in
theorem ownBlocks_any (s0 : Option Addr) (n0 c0 : Nat) (l : List Blk) (w : World) (hl : SliceIs w (.slice s0 n0 c0) 3 (bcells l)) (h40 : l.length ≤ 1000000) :
    Calls Tryd.prog 19 #[.slice s0 n0 c0] w fun e w' => ∃ v, e = .returned v ∧ w'.ownsRow w.heap.size 92 3 v l.length (bcells l) ∧ Below w.heap.size w w' := by
  obtain ⟨i0, hi, hz0, hz1, hz2⟩ := info_parts info_blk
  have hn := (blks_sl hl).1
  have hown0 := World.ownsRow_nil w w.heap.size 92 3
  rcases hl with ⟨h1, h2⟩ | ⟨a, len, cap, h1, h2, h3, h4, h5⟩
  · cases h1
    have hl0 : l = [] := List.eq_nil_of_length_eq_zero hn
    subst hl0
    go_enter Tryd.func19, Tryd.ntmps19
    go_wp2_with (at_builtin; refine wpList_append_own_none _ rfl _ _ _ rfl w.heap.size 92 i0 3 Tryd.underlying40 hi hz1 _ _ _ rfl hown0 _ rfl ?_)
    go_ret
    exact ⟨.slice none 0 0, rfl, by rw [bcells_nil]; exact hown0, Below.refl _ _⟩
  · cases h1
    have hO := Lib.hid h5
    have HM1 : Hid (0 + n0 ≤ maxLen) := by show _ ≤ _; unfold maxLen; omega
    have HM2 : Hid ((0 + n0) * 24 ≤ 140737488355328) := by show _ ≤ _; omega
    have HL := Lib.hid h4
    have HN := Lib.hid hn
    clear h5 h4 hn
    go_enter Tryd.func19, Tryd.ntmps19
    go_wp2_with (at_builtin; refine wpList_append_own _ rfl _ _ 40 rfl w.heap.size 92 i0 _ 3 24 Tryd.underlying40 hi hz0 hz1 hz2 rfl (by decide) _ _ _ rfl hown0 a n0 c0 (bcells l) rfl HL.out hO.out (bcells_cell l) HM1.out HM2.out (Nat.le_refl _) ?_; intro v' w2 hown' hgrow _)
    go_ret
    refine ⟨_, rfl, by rw [HN.out]; simpa using hown', (Below.refl _ w).grown hgrow (Nat.le_refl _) (fun k hk => (hown0.lt k hk).1)⟩
end Go.Proofs.YtkhjhbgoccljfaaDoor
