/- Contracts of ops: delta.Check, Cost; the statements' longOps, ownOps. -/
import Derived.Test.YtkhjhbgoccljfaaDoorOps
import Derived.Laws.AppendOwnNone
namespace Go.Proofs.YtkhjhbgoccljfaaDoor
open Go.RowKit

theorem ops_len {w : World} {s0 : Option Addr} {n0 c0 : Nat} {l : List POp} (hl : SliceIs w (.slice s0 n0 c0) 4 (ocells l)) : l.length = n0 ∧ c0 ≤ 9223372036854775807 ∧ n0 ≤ c0 := by
  obtain ⟨s0', n0', c0', e1, e2, e3, e4, _⟩ := hl.get
  cases e1
  rw [ocells_len] at e2
  unfold maxLen at e4
  exact ⟨by omega, by omega, e3⟩
/-- the cells of one op -/
theorem ops_cells {w : World} {s0 : Option Addr} {n0 c0 : Nat} {l : List POp} (hl : SliceIs w (.slice s0 n0 c0) 4 (ocells l)) (k : Nat) (hk : k < l.length) :
    ∃ a, s0 = some a ∧ w.cell? (a.add (k * 4)) = some (.string (bs l[k].kind)) ∧ w.cell? ⟨(a.add (k * 4)).block, (a.add (k * 4)).off + (0 + 1), none⟩ = some (.int .i64 l[k].a) ∧
      w.cell? ⟨(a.add (k * 4)).block, (a.add (k * 4)).off + (1 + 1), none⟩ = some (.int .i64 l[k].n) ∧ w.cell? ⟨(a.add (k * 4)).block, (a.add (k * 4)).off + (2 + 1), none⟩ = some (.string (bs l[k].data)) := by
  obtain ⟨s0', n0', c0', e1, _, _, _, g1⟩ := hl.get
  cases e1
  obtain ⟨g2, g3, g4, g5⟩ := ocells_get l k hk
  obtain ⟨a, rfl, d0⟩ := g1 _ _ g2
  obtain ⟨a', e', d1⟩ := g1 _ _ g3
  cases e'
  obtain ⟨a', e', d2⟩ := g1 _ _ g4
  cases e'
  obtain ⟨a', e', d3⟩ := g1 _ _ g5
  cases e'
  exact ⟨a, rfl, d0, cell_at d1, cell_at d2, cell_at d3⟩

set_option maxRecDepth 100000 in
set_option maxHeartbeats 3200000 in
theorem dcheck_any (E : Nat → Addr) (s0 : Option Addr) (n0 c0 : Nat) (l : List POp) (w : World) (hl : SliceIs w (.slice s0 n0 c0) 4 (ocells l)) (h2 : Has E w 2) (h3 : Has E w 3) (h4 : Has E w 4) :
    Calls Tryd.prog 36 #[.slice s0 n0 c0] w fun e w' => ∃ v, e = .returned v ∧ FErr E w' v (chkOps l).1 (chkOps l).2 ∧ Below w.heap.size w w' := by
  obtain ⟨rfl, hc0, hc1⟩ := ops_len hl
  have HLS := Lib.hid hl
  have HB := Lib.hid h2
  have HS := Lib.hid h3
  have HK := Lib.hid h4
  have HCH := Lib.hid (show chkOps l = chkO (l.drop 0) 0 by unfold chkOps; rfl)
  clear hl h2 h3 h4
  go_enter Tryd.func36, Tryd.ntmps36
  go_wp2_with fail
  go_loopw [8, 3, 4, 5] (fun i _ _ _ wr => ∃ k : Nat, i = .int .i64 k ∧ k ≤ l.length ∧ chkOps l = chkO (l.drop k) k ∧ Below w.heap.size w wr) (fun i _ _ _ _ => l.length - (intOf i).toNat)
  case atStart => exact ⟨0, rfl, by omega, HCH.out, Below.refl _ _⟩
  case round =>
    obtain ⟨k, rfl, hk, hf, bel⟩ := hrel
    have HF := Lib.hid hf
    clear hf
    by_cases hlt : k < l.length
    · have hltI : (k : Int) < l.length := by omega
      obtain ⟨ad, rfl, d0, d1, d2, d3⟩ := ops_cells (HLS.out.below bel) k hlt
      have KK := Lib.hid (show k + 1 ≤ l.length by omega)
      have BAD := Lib.hid (fun hb => HF.out.trans (chkO_bad hlt hb))
      have NEXT := Lib.hid (fun hb => HF.out.trans (chkO_next hlt hb))
      have x1 : (0 : Int) ≤ k := by omega
      have x2 : (k : Int).toNat = k := by omega
      generalize l[k] = o at d0 d1 d2 d3 BAD NEXT
      have belA := bel.alloc bel.size (.cells #[.string (bs o.kind), .int .i64 o.a, .int .i64 o.n, .string (bs o.data)] 67)
      have OC := opcheck_any E o (wr.alloc (.cells #[.string (bs o.kind), .int .i64 o.a, .int .i64 o.n, .string (bs o.data)] 67)) (HB.out.below belA) (HS.out.below belA) (HK.out.below belA)
      unfold POp.val at OC
      by_cases hc : opC o = 0
      · rw [hc, ev_zero] at OC
        have HO := Lib.hid OC
        have N := Lib.hid (NEXT.out hc)
        clear OC hc NEXT BAD
        go_wp2_with fail
        refine HO.out.mono ?_
        rintro e w1 ⟨rfl, b1⟩
        have bel1 := below_trans' belA b1
        clear b1 HO belA bel
        go_wp2_with fail
        go_roundw
        case rel => exact ⟨k + 1, by go_num, KK.out, N.out, bel1⟩
        case measure => simp [intOf]; omega
      · have N := Lib.hid (BAD.out hc)
        rw [ev_is E hc] at OC
        unfold errv at OC
        have HO := Lib.hid OC
        have HC := Lib.hid hc
        clear OC hc NEXT BAD
        go_wp2_with fail
        refine HO.out.mono ?_
        rintro e w1 ⟨rfl, b1⟩
        have bel1 := below_trans' belA b1
        clear b1 HO belA bel
        go_wp2_with fail
        go_ret
        exact ⟨_, rfl, FErr.new E _ _ HC.out _ _ (by simp) _ N.out, bel1.alloc bel1.size _⟩
    · have hltI : ¬ (k : Int) < l.length := by omega
      have hb := Lib.hid (HF.out.trans (chkO_end (by omega : l.length ≤ k)))
      go_wp2_with fail
      go_ret
      exact ⟨_, rfl, by rw [hb.out]; exact FErr.nil E _, bel⟩

theorem costN_le (l : List POp) (k : Nat) : costN (l.take k) ≤ costN l := by
  have := costN_append (l.take k) (l.drop k)
  rw [List.take_append_drop] at this
  omega
set_option maxRecDepth 100000 in
set_option maxHeartbeats 1600000 in
theorem cost_any (s0 : Option Addr) (n0 c0 : Nat) (l : List POp) (w : World) (hl : SliceIs w (.slice s0 n0 c0) 4 (ocells l)) (hcl : costN l ≤ 1000000000) :
    Calls Tryd.prog 40 #[.slice s0 n0 c0] w fun e w' => e = .returned (.int .i64 (costN l)) ∧ Below w.heap.size w w' := by
  obtain ⟨rfl, hc0, hc1⟩ := ops_len hl
  have HLS := Lib.hid hl
  clear hl
  go_enter Tryd.func40, Tryd.ntmps40
  go_wp2_with fail
  go_loopw [8, 3, 5] (fun i n _ wr => ∃ k : Nat, i = .int .i64 k ∧ k ≤ l.length ∧ n = .int .i64 (costN (l.take k)) ∧ Below w.heap.size w wr) (fun i _ _ _ => l.length - (intOf i).toNat)
  case atStart => exact ⟨0, rfl, by omega, by simp [costN_nil], Below.refl _ _⟩
  case round =>
    obtain ⟨k, rfl, hk, rfl, bel⟩ := hrel
    have hle := costN_le l k
    by_cases hlt : k < l.length
    · have hltI : (k : Int) < l.length := by omega
      obtain ⟨ad, rfl, d0, d1, d2, d3⟩ := ops_cells (HLS.out.below bel) k hlt
      have KK := Lib.hid (show k + 1 ≤ l.length by omega)
      have htk := List.take_succ_eq_append_getElem hlt
      have hle2 := costN_le l (k + 1)
      have hst : costN (l.take (k + 1)) = costN (l.take k) + l[k].data.length := by rw [htk, costN_append, costN_one]; rfl
      have x1 : (0 : Int) ≤ k := by omega
      have x2 : (k : Int).toNat = k := by omega
      generalize l[k] = o at d0 d1 d2 d3 hst
      have hle3 : o.data.length ≤ 1000000000 := by omega
      have HST := Lib.hid hst
      have belA := bel.alloc bel.size (.cells #[.string (bs o.kind), .int .i64 o.a, .int .i64 o.n, .string (bs o.data)] 67)
      clear htk hst hle2
      go_wp2_with fail
      go_roundw
      case rel => exact ⟨k + 1, by go_num, KK.out, by rw [HST.out]; go_num, belA⟩
      case measure => simp [intOf]; omega
    · have hltI : ¬ (k : Int) < l.length := by omega
      have htk : l.take k = l := List.take_of_length_le (by omega)
      rw [htk]
      clear htk
      go_wp2_with fail
      go_ret
      exact ⟨rfl, bel⟩

theorem longB_yes {l : List POp} (h : 40 < l.length) : longB l = true := by simp [longB, h]
theorem longB_at {l : List POp} {k : Nat} (hk : k < l.length) (h : (100 < l[k].data.length ∧ l[k].data.length ≠ 4001) ∨ 20 < l[k].kind.length) : longB l = true := by
  unfold longB
  rw [Bool.or_eq_true, List.any_eq_true]
  exact .inr ⟨l[k], List.getElem_mem hk, by simp; omega⟩
theorem longB_none {l : List POp} (h0 : l.length ≤ 40) (h : ∀ o ∈ l, ¬ ((100 < o.data.length ∧ o.data.length ≠ 4001) ∨ 20 < o.kind.length)) : longB l = false := by
  unfold longB
  rw [Bool.or_eq_false_iff, List.any_eq_false]
  refine ⟨by simp; omega, fun o ho => ?_⟩
  have := h o ho
  simp; omega

set_option maxRecDepth 100000 in
set_option maxHeartbeats 1600000 in
theorem longOps_any (s0 : Option Addr) (n0 c0 : Nat) (l : List POp) (w : World) (hl : SliceIs w (.slice s0 n0 c0) 4 (ocells l)) :
    Calls Tryd.prog 7 #[.slice s0 n0 c0] w fun e w' => e = .returned (.bool (longB l)) ∧ w = w' := by
  obtain ⟨rfl, hc0, hc1⟩ := ops_len hl
  have HLS := Lib.hid hl
  clear hl
  by_cases h40 : l.length ≤ 40
  · have hI : ¬ (40 : Int) < l.length := by omega
    go_enter Tryd.func7, Tryd.ntmps7
    go_wp2_with fail
    go_loop [3] (fun i => ∃ k : Nat, i = .int .i64 k ∧ k ≤ l.length ∧ ∀ o ∈ l.take k, ¬ ((100 < o.data.length ∧ o.data.length ≠ 4001) ∨ 20 < o.kind.length)) (fun i => l.length - (intOf i).toNat)
    case atStart => exact ⟨0, rfl, by omega, by simp⟩
    case round =>
      obtain ⟨k, rfl, hk, hall⟩ := hrel
      by_cases hlt : k < l.length
      · have hltI : (k : Int) < l.length := by omega
        obtain ⟨ad, rfl, d0, d1, d2, d3⟩ := ops_cells HLS.out k hlt
        have KK := Lib.hid (show k + 1 ≤ l.length by omega)
        have YES := Lib.hid (longB_at hlt)
        have NEXT : Hid (¬ ((100 < l[k].data.length ∧ l[k].data.length ≠ 4001) ∨ 20 < l[k].kind.length) → ∀ o ∈ l.take (k + 1), ¬ ((100 < o.data.length ∧ o.data.length ≠ 4001) ∨ 20 < o.kind.length)) := fun h o ho => by
          rw [List.take_succ_eq_append_getElem hlt] at ho
          rcases List.mem_append.1 ho with h' | h'
          · exact hall o h'
          · simp at h'; subst h'; exact h
        have x1 : (0 : Int) ≤ k := by omega
        have x2 : (k : Int).toNat = k := by omega
        clear hall
        generalize l[k] = o at d0 d1 d2 d3 YES NEXT
        obtain ⟨K, a, n, D⟩ := o
        simp only [] at d0 d1 d2 d3 YES NEXT
        by_cases q1 : 100 < D.length
        · have q1I : (100 : Int) < D.length := by omega
          by_cases q2 : D.length = 4001
          · have q2b : ((D.length : Int) != 4001) = false := by simp; omega
            by_cases q3 : 20 < K.length
            · have q3I : (20 : Int) < K.length := by omega
              have Y := Lib.hid (YES.out (.inr q3))
              clear YES NEXT q2
              go_wp2_with fail
              go_ret
              exact ⟨ret_bool Y.out.symm, rfl⟩
            · have q3I : ¬ (20 : Int) < K.length := by omega
              have N := Lib.hid (NEXT.out (by omega))
              clear YES NEXT q2
              go_wp2_with fail
              go_round
              case rel => exact ⟨k + 1, by go_num, KK.out, N.out⟩
              case measure => simp [intOf]; omega
          · have q2b : ((D.length : Int) != 4001) = true := by simp; omega
            have Y := Lib.hid (YES.out (.inl ⟨q1, q2⟩))
            clear YES NEXT q2
            go_wp2_with fail
            go_ret
            exact ⟨ret_bool Y.out.symm, rfl⟩
        · have q1I : ¬ (100 : Int) < D.length := by omega
          by_cases q3 : 20 < K.length
          · have q3I : (20 : Int) < K.length := by omega
            have Y := Lib.hid (YES.out (.inr q3))
            clear YES NEXT
            go_wp2_with fail
            go_ret
            exact ⟨ret_bool Y.out.symm, rfl⟩
          · have q3I : ¬ (20 : Int) < K.length := by omega
            have N := Lib.hid (NEXT.out (by omega))
            clear YES NEXT
            go_wp2_with fail
            go_round
            case rel => exact ⟨k + 1, by go_num, KK.out, N.out⟩
            case measure => simp [intOf]; omega
      · have hltI : ¬ (k : Int) < l.length := by omega
        have htk : l.take k = l := List.take_of_length_le (by omega)
        rw [htk] at hall
        have N := Lib.hid (longB_none h40 hall)
        clear htk hall
        go_wp2_with fail
        go_ret
        exact ⟨ret_bool N.out.symm, rfl⟩
  · have hI : (40 : Int) < l.length := by omega
    have N := Lib.hid (longB_yes (l := l) (by omega))
    go_enter Tryd.func7, Tryd.ntmps7
    go_wp2_with fail
    go_ret
    exact ⟨ret_bool N.out.symm, rfl⟩

theorem info_op : (Tryd.prog.info? 67).map (fun i => (i.zero, i.size, i.bytes)) = some (some (.agg #[.string ⟨#[]⟩, .int .i64 0, .int .i64 0, .string ⟨#[]⟩]), 4, 48) := by kernel_rfl
set_option maxRecDepth 100000 in
set_option maxHeartbeats 1600000 in
theorem ownOps_any (s0 : Option Addr) (n0 c0 : Nat) (l : List POp) (w : World) (hl : SliceIs w (.slice s0 n0 c0) 4 (ocells l)) (h40 : l.length ≤ 1000000) :
    Calls Tryd.prog 9 #[.slice s0 n0 c0] w fun e w' => ∃ v, e = .returned v ∧ w'.ownsRow w.heap.size 67 4 v l.length (ocells l) ∧ Below w.heap.size w w' := by
  obtain ⟨i0, hi, hz0, hz1, hz2⟩ := info_parts info_op
  have hn := (ops_len hl).1
  have hown0 := World.ownsRow_nil w w.heap.size 67 4
  rcases hl with ⟨h1, h2⟩ | ⟨a, len, cap, h1, h2, h3, h4, h5⟩
  · cases h1
    have hl0 : l = [] := List.eq_nil_of_length_eq_zero hn
    subst hl0
    go_enter Tryd.func9, Tryd.ntmps9
    go_wp2_with (at_builtin; refine wpList_append_own_none _ rfl _ _ _ rfl w.heap.size 67 i0 4 Tryd.underlying22 hi hz1 _ _ _ rfl hown0 _ rfl ?_)
    go_ret
    exact ⟨.slice none 0 0, rfl, by rw [ocells_nil]; exact hown0, Below.refl _ _⟩
  · cases h1
    have hO := Lib.hid h5
    have HM1 : Hid (0 + n0 ≤ maxLen) := by show _ ≤ _; unfold maxLen; omega
    have HM2 : Hid ((0 + n0) * 48 ≤ 140737488355328) := by show _ ≤ _; omega
    have HL := Lib.hid h4
    have HN := Lib.hid hn
    clear h5 h4 hn
    go_enter Tryd.func9, Tryd.ntmps9
    go_wp2_with (at_builtin; refine wpList_append_own _ rfl _ _ 22 rfl w.heap.size 67 i0 _ 4 48 Tryd.underlying22 hi hz0 hz1 hz2 rfl (by decide) _ _ _ rfl hown0 a n0 c0 (ocells l) rfl HL.out hO.out (ocells_cell l) HM1.out HM2.out (Nat.le_refl _) ?_; intro v' w2 hown' hgrow _)
    go_ret
    refine ⟨_, rfl, by rw [HN.out]; simpa using hown', (Below.refl _ w).grown hgrow (Nat.le_refl _) (fun k hk => (hown0.lt k hk).1)⟩
end Go.Proofs.YtkhjhbgoccljfaaDoor
