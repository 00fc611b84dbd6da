/- Contracts of the document's SignFault, BlocksOf, FindOf, SizeOf. -/
import Derived.Test.YtkhjhbgoccljfaaDoorCheck
import Derived.Test.YtkhjhbgoccljfaaDoorRefWeak
import Derived.Test.YtkhjhbgoccljfaaDoorSum
namespace Go.Proofs.YtkhjhbgoccljfaaDoor
open Go.RowKit
set_option linter.unusedVariables false

/-- the document's fault, a struct -/
def rfv (p : Nat × Int) : Value := .agg #[.int .i64 p.1, .int .i64 p.2]
theorem rfv_is (p : Nat × Int) : rfv p = .agg #[.int .i64 p.1, .int .i64 p.2] := rfl
theorem rfv_mk (p : Nat × Int) (c : Nat) (a : Int) (h : p = (c, a)) : Value.agg #[.int .i64 c, .int .i64 a] = rfv p := by rw [h, rfv_is]
theorem below_one (w : World) (o : Obj) : Below w.heap.size w (w.alloc o) := (Below.refl _ w).alloc (Nat.le_refl _) o
theorem set2 {w : World} {b : Nat} {x y : Value} {t : TypeId} (h : w.heap[b]? = some (.cells #[x, y] t (0, 0))) (u v : Value) :
    ((w.setCell ⟨b, 0, none⟩ u).setCell ⟨b, 1, none⟩ v).cell? ⟨b, 0, none⟩ = some u ∧ ((w.setCell ⟨b, 0, none⟩ u).setCell ⟨b, 1, none⟩ v).cell? ⟨b, 1, none⟩ = some v := by
  have h1 := set_at (k := 0) (u := u) h
  have h2 := set_at (k := 1) (u := v) h1
  constructor
  · simp [World.cell?, h2]
  · simp [World.cell?, h2]
set_option maxRecDepth 100000 in
theorem rbare_any (c : Int) (w : World) : Calls Tryd.prog 45 #[.int .i64 c] w fun e w' => e = .returned (.agg #[.int .i64 c, .int .i64 (-1)]) ∧ Below w.heap.size w w' := by
  go_enter Tryd.func45, Tryd.ntmps45
  go_wp2_with fail
  go_returns
  exact ⟨rfl, below_one _ _⟩
set_option maxRecDepth 100000 in
theorem rfine_any (w : World) : Calls Tryd.prog 46 #[] w fun e w' => e = .returned (.agg #[.int .i64 0, .int .i64 (-1)]) ∧ Below w.heap.size w w' := by
  go_enter Tryd.func46, Tryd.ntmps46
  go_wp2_with fail
  go_returns
  exact ⟨rfl, below_one _ _⟩
attribute [irreducible] rfv
theorem isWeakB_yes {a : Int} (h : 0 ≤ a ∧ a < 4294967296) : isWeakB a = true := (isWeakB_iff a).2 h
theorem isWeakB_no {a : Int} (h : ¬ (0 ≤ a ∧ a < 4294967296)) : isWeakB a = false := by
  rw [← Bool.not_eq_true]; exact fun e => h ((isWeakB_iff a).1 e)

set_option maxRecDepth 100000 in
set_option maxHeartbeats 3200000 in
theorem rsf_any (s0 : Option Addr) (n0 c0 : Nat) (l : List Blk) (size : Int) (w : World) (hl : SliceIs w (.slice s0 n0 c0) 3 (bcells l)) :
    Calls Tryd.prog 20 #[.slice s0 n0 c0, .int .i64 size] w fun e w' => e = .returned (rfv (chk l size)) ∧ Below w.heap.size w w' := by
  have hlen : l.length = n0 ∧ c0 ≤ maxLen ∧ n0 ≤ c0 := by
    obtain ⟨s0', n0', c0', e1, e2, e3, e4, _⟩ := hl.get
    cases e1
    rw [bcells_len] at e2
    exact ⟨by omega, e4, e3⟩
  obtain ⟨rfl, hc0, hc1⟩ := hlen
  unfold maxLen at hc0
  have HB0 := Lib.hid (below_one w (.cells #[.int .i64 0, .int .i64 0] 32))
  have HLS := Lib.hid (hl.below HB0.out)
  have MK := Lib.hid (rfv_mk (chk l size))
  clear hl
  by_cases hs : 1 ≤ size ∧ size ≤ 64
  · have hchk := chk_yes (l := l) hs
    have HCH := Lib.hid hchk
    obtain ⟨hs1, hs2⟩ := hs
    clear hchk
    go_enter Tryd.func20, Tryd.ntmps20
    go_wp2_with fail
    go_loopw [5, 6, 7, 8] (fun all i _ _ wr => ∃ (k : Nat) (a : Int), i = .int .i64 k ∧ k ≤ l.length ∧ all = .int .i64 a ∧ 0 ≤ a ∧ a ≤ 4000 ∧ chk l size = chkA size (l.drop k) k a ∧ wr = w.alloc (.cells #[.int .i64 0, .int .i64 0] 32)) (fun _ i _ _ _ => l.length - (intOf i).toNat)
    case atStart => exact ⟨0, 0, rfl, by omega, rfl, by omega, by omega, HCH.out, rfl⟩
    case round =>
      obtain ⟨k, a, rfl, hk, rfl, ha0, ha1, hf, rfl⟩ := hrel
      have HF := Lib.hid hf
      clear hf
      by_cases hlt : k < l.length
      · have hltI : (k : Int) < l.length := by omega
        obtain ⟨s0', n0', c0', e1, _, _, _, g1⟩ := HLS.out.get
        cases e1
        obtain ⟨g2, g3, g4⟩ := bcells_get l k hlt
        obtain ⟨ad, rfl, d0⟩ := g1 _ _ g2
        obtain ⟨a', e', d1⟩ := g1 _ _ g3
        cases e'
        clear g1 g2 g3 g4
        have KK := Lib.hid (show k + 1 ≤ l.length by omega)
        have BAD := Lib.hid (fun hb => HF.out.trans (chkA_bad (size := size) (all := a) hlt hb))
        have FULL := Lib.hid (fun hb hf => HF.out.trans (chkA_full (size := size) (all := a) hlt hb hf))
        have NEXT := Lib.hid (fun hb hf => HF.out.trans (chkA_next (size := size) (all := a) hlt hb hf))
        have x1 : (0 : Int) ≤ k := by omega
        have x2 : (k : Int).toNat = k := by omega
        generalize l[k] = b at d0 d1 BAD FULL NEXT
        obtain ⟨bn, bw, bS⟩ := b
        have d1 := cell_at d1
        simp only [] at d0 d1
        have CASES : bn < 1 ∨ (¬ bn < 1 ∧ size < bn) ∨ (¬ bn < 1 ∧ ¬ size < bn) := by omega
        have IW := Lib.hid (fun (w' : World) => isWeak_any bw w')
        by_cases hw : 0 ≤ bw ∧ bw < 4294967296
        · have IWV := isWeakB_yes hw
          rw [IWV] at IW
          have GOODB : Hid (1 ≤ bn → bn ≤ size → (¬ bn < size ∨ l.length = k + 1) → ¬ badB ⟨bn, bw, bS⟩ size (decide (l.length = k + 1))) := fun h1 h2 h3 h => by
            unfold badB at h
            simp only [decide_eq_false_iff_not] at h
            omega
          clear IWV
          rcases CASES with b1 | ⟨b1, b2⟩ | ⟨b1, b2⟩
          · have hb := Lib.hid (BAD.out (.inl b1))
            clear BAD FULL NEXT GOODB
            go_wp2_with fail
            refine (IW.out _).mono ?_
            rintro e w1 ⟨rfl, rfl⟩
            go_wp2_with fail
            go_returns
            exact ⟨by rw [← MK.out _ _ hb.out]; rfl, below_one _ _⟩
          · have hb := Lib.hid (BAD.out (.inr (.inl b2)))
            clear BAD FULL NEXT GOODB
            go_wp2_with fail
            refine (IW.out _).mono ?_
            rintro e w1 ⟨rfl, rfl⟩
            go_wp2_with fail
            go_returns
            exact ⟨by rw [← MK.out _ _ hb.out]; rfl, below_one _ _⟩
          · by_cases b3 : bn < size ∧ l.length ≠ k + 1
            · have hb := Lib.hid (BAD.out (.inr (.inr (.inl ⟨b3.1, by simpa using b3.2⟩))))
              obtain ⟨b4, b5⟩ := b3
              have b6 : (k : Int) < (l.length : Int) - 1 := by omega
              clear BAD FULL NEXT GOODB b5
              go_wp2_with fail
              refine (IW.out _).mono ?_
              rintro e w1 ⟨rfl, rfl⟩
              go_wp2_with fail
              go_returns
              exact ⟨by rw [← MK.out _ _ hb.out]; rfl, below_one _ _⟩
            · have HG := Lib.hid (GOODB.out (by omega) (by omega) (by omega))
              have b4 : ¬ bn < size ∨ bn < size ∧ ¬ (k : Int) < (l.length : Int) - 1 := by omega
              clear BAD GOODB b3
              by_cases b7 : 4000 < a + bn
              · have hb := Lib.hid (FULL.out HG.out b7)
                clear FULL NEXT
                rcases b4 with b4 | ⟨b4, b5⟩
                all_goals
                  go_wp2_with fail
                  refine (IW.out _).mono ?_
                  rintro e w1 ⟨rfl, rfl⟩
                  go_wp2_with fail
                  go_returns
                  exact ⟨by rw [← MK.out _ _ hb.out]; rfl, below_one _ _⟩
              · have hb := Lib.hid (NEXT.out HG.out b7)
                clear FULL NEXT
                rcases b4 with b4 | ⟨b4, b5⟩
                all_goals
                  go_wp2_with fail
                  refine (IW.out _).mono ?_
                  rintro e w1 ⟨rfl, rfl⟩
                  go_wp2_with fail
                  go_roundw
                  case rel => exact ⟨k + 1, _, by go_num, KK.out, rfl, by omega, by omega, hb.out, by first | rfl | trivial⟩
                  case measure => simp [intOf]; omega
        · have IWV := isWeakB_no hw
          rw [IWV] at IW
          have hb : Hid (chk l size = (2, (k : Int))) := BAD.out (by unfold badB; simp only [decide_eq_false_iff_not]; omega)
          clear IWV BAD FULL NEXT hw
          rcases CASES with b1 | ⟨b1, b2⟩ | ⟨b1, b2⟩
          all_goals
            go_wp2_with fail
            refine (IW.out _).mono ?_
            rintro e w1 ⟨rfl, rfl⟩
            go_wp2_with fail
            go_returns
            exact ⟨by rw [← MK.out _ _ hb.out]; rfl, below_one _ _⟩
      · have hltI : ¬ (k : Int) < l.length := by omega
        have hb := Lib.hid (HF.out.trans (chkA_end (size := size) (all := a) (by omega : l.length ≤ k)))
        have hbb := HB0.out
        have hfz : (w.alloc (.cells #[.int .i64 0, .int .i64 0] 32)).heap[w.heap.size]? = some (.cells #[.int .i64 0, .int .i64 0] 32 (0, 0)) := heap_alloc_new _ _
        generalize w.alloc (.cells #[.int .i64 0, .int .i64 0] 32) = w0 at *
        have HZ := Lib.hid hfz
        clear hfz
        go_wp2_with fail
        refine (rfine_any _).mono ?_
        rintro e w1 ⟨rfl, b1⟩
        have hz1 := (b1.block w.heap.size (lt_of_block HZ.out)).trans HZ.out
        have f0 : w1.frozen? ⟨w.heap.size, 0, none⟩ = false := by simp [World.frozen?, hz1]
        have f1 : w1.frozen? ⟨w.heap.size, 1, none⟩ = false := by simp [World.frozen?, hz1]
        have e0 : w1.cell? ⟨w.heap.size, 0, none⟩ = some (.int .i64 0) := by simp [World.cell?, hz1]
        have e1 : w1.cell? ⟨w.heap.size, 1, none⟩ = some (.int .i64 0) := by simp [World.cell?, hz1]
        obtain ⟨r0, r1⟩ := set2 hz1 (.int .i64 0) (.int .i64 (-1))
        have bb := ((below_trans' hbb b1).setCell (p := ⟨w.heap.size, 0, none⟩) (Nat.le_refl _) (.int .i64 0)).setCell (p := ⟨w.heap.size, 1, none⟩) (Nat.le_refl _) (.int .i64 (-1))
        go_wp2_with fail
        generalize (w1.setCell ⟨w.heap.size, 0, none⟩ (.int .i64 0)).setCell ⟨w.heap.size, 1, none⟩ (.int .i64 (-1)) = w2 at r0 r1 bb ⊢
        (try simp only [Exit.inBlock, Exit.then])
        refine bodyPost_ret (by simp [results, Tryd.results20, go_sem, r0, r1]; try rfl) rfl ?_
        exact ⟨by rw [← MK.out _ _ hb.out]; rfl, bb⟩
  · have HCH := Lib.hid (chk_no (l := l) hs)
    have hs3 : size < 1 ∨ (¬ size < 1 ∧ 64 < size) := by omega
    have hfz : (w.alloc (.cells #[.int .i64 0, .int .i64 0] 32)).heap[w.heap.size]? = some (.cells #[.int .i64 0, .int .i64 0] 32 (0, 0)) := heap_alloc_new _ _
    have HZ := Lib.hid hfz
    clear hs hfz
    rcases hs3 with h | ⟨h, h'⟩
    all_goals
      go_enter Tryd.func20, Tryd.ntmps20
      go_wp2_with fail
      refine (rbare_any _ _).mono ?_
      rintro e w1 ⟨rfl, b1⟩
      have hz1 := (b1.block w.heap.size (lt_of_block HZ.out)).trans HZ.out
      have f0 : w1.frozen? ⟨w.heap.size, 0, none⟩ = false := by simp [World.frozen?, hz1]
      have f1 : w1.frozen? ⟨w.heap.size, 1, none⟩ = false := by simp [World.frozen?, hz1]
      have e0 : w1.cell? ⟨w.heap.size, 0, none⟩ = some (.int .i64 0) := by simp [World.cell?, hz1]
      have e1 : w1.cell? ⟨w.heap.size, 1, none⟩ = some (.int .i64 0) := by simp [World.cell?, hz1]
      obtain ⟨r0, r1⟩ := set2 hz1 (.int .i64 2) (.int .i64 (-1))
      have bb := ((below_trans' HB0.out b1).setCell (p := ⟨w.heap.size, 0, none⟩) (Nat.le_refl _) (.int .i64 2)).setCell (p := ⟨w.heap.size, 1, none⟩) (Nat.le_refl _) (.int .i64 (-1))
      go_wp2_with fail
      generalize (w1.setCell ⟨w.heap.size, 0, none⟩ (.int .i64 2)).setCell ⟨w.heap.size, 1, none⟩ (.int .i64 (-1)) = w2 at r0 r1 bb ⊢
      (try simp only [Exit.inBlock, Exit.then])
      refine bodyPost_ret (by simp [results, Tryd.results20, go_sem, r0, r1]; try rfl) rfl ?_
      exact ⟨by rw [← MK.out _ _ HCH.out]; rfl, bb⟩
end Go.Proofs.YtkhjhbgoccljfaaDoor
