/- Contract of sign.Check. -/
import Derived.Test.YtkhjhbgoccljfaaDoorFault
import Derived.Test.YtkhjhbgoccljfaaDoorChkPlain
import Derived.Test.YtkhjhbgoccljfaaDoorSign
namespace Go.Proofs.YtkhjhbgoccljfaaDoor
open Go.RowKit

set_option maxRecDepth 100000 in
set_option maxHeartbeats 3200000 in
theorem check_any (E : Nat → Addr) (s0 : Option Addr) (n0 c0 : Nat) (l : List Blk) (size : Int) (w : World) (hl : SliceIs w (.slice s0 n0 c0) 3 (bcells l)) (hB : Has E w 2) (hF : Has E w 8) :
    Calls Tryd.prog 22 #[.slice s0 n0 c0, .int .i64 size] w fun e w' => ∃ v, e = .returned v ∧ FErr E w' v (chk l size).1 (chk l size).2 ∧ Below w.heap.size w w' := by
  have hlen : l.length = n0 ∧ c0 ≤ maxLen ∧ n0 ≤ c0 := by
    obtain ⟨s0', n0', c0', e1, e2, e3, e4, _⟩ := hl.get
    cases e1
    rw [bcells_len] at e2
    exact ⟨by omega, e4, e3⟩
  obtain ⟨rfl, hc0, hc1⟩ := hlen
  unfold maxLen at hc0
  have HLS := Lib.hid hl
  have HB := Lib.hid hB
  have HFL := Lib.hid hF
  clear hl hF
  by_cases hs : 1 ≤ size ∧ size ≤ 64
  · have hchk := chk_yes (l := l) hs
    have HCH := Lib.hid hchk
    have HSW := Lib.hid (fun w => swell_yes size w hs)
    obtain ⟨hs1, hs2⟩ := hs
    clear hchk hB
    go_enter Tryd.func22, Tryd.ntmps22
    go_wp2_with (go_at_call 50; refine (HSW.out _).mono ?_; rintro e w' ⟨rfl, rfl⟩)
    go_loopw [15, 5, 6, 7, 8] (fun i all _ _ _ wr => ∃ (k : Nat) (a : Int), i = .int .i64 k ∧ k ≤ l.length ∧ all = .int .i64 a ∧ 0 ≤ a ∧ a ≤ 4000 ∧ chk l size = chkA size (l.drop k) k a ∧ Below w.heap.size w wr) (fun i _ _ _ _ _ => l.length - (intOf i).toNat)
    case atStart => exact ⟨0, 0, rfl, by omega, rfl, by omega, by omega, HCH.out, Below.refl _ _⟩
    case round =>
      obtain ⟨k, a, rfl, hk, rfl, ha0, ha1, hf, bel⟩ := hrel
      have HF := Lib.hid hf
      clear hf
      by_cases hlt : k < l.length
      · have hltI : (k : Int) < l.length := by omega
        obtain ⟨s0', n0', c0', e1, _, _, _, g1⟩ := (HLS.out.below bel).get
        cases e1
        obtain ⟨g2, g3, g4⟩ := bcells_get l k hlt
        obtain ⟨ad, rfl, d0⟩ := g1 _ _ g2
        obtain ⟨a', e', d1⟩ := g1 _ _ g3
        cases e'
        obtain ⟨a', e', d2⟩ := g1 _ _ g4
        cases e'
        clear g1 g2 g3 g4
        have KK := Lib.hid (show k + 1 ≤ l.length by omega)
        have BAD := Lib.hid (fun hb => HF.out.trans (chkA_bad (size := size) (all := a) hlt hb))
        have FULL := Lib.hid (fun hb hf => HF.out.trans (chkA_full (size := size) (all := a) hlt hb hf))
        have NEXT := Lib.hid (fun hb hf => HF.out.trans (chkA_next (size := size) (all := a) hlt hb hf))
        have x1 : (0 : Int) ≤ k := by omega
        have x2 : (k : Int).toNat = k := by omega
        have c2 : wr.cell? ⟨0, 0, none⟩ = some (errv (E 2)) := HB.out.below bel
        have belA := fun o => bel.alloc bel.size o
        have c8 : wr.cell? ⟨1, 0, none⟩ = some (errv (E 8)) := HFL.out.below bel
        have z2 : 0 < wr.heap.size := World.block_lt_of_cell? wr _ c2
        have z8 : 1 < wr.heap.size := World.block_lt_of_cell? wr _ c8
        unfold errv at c2 c8
        generalize l[k] = b at d0 d1 d2 BAD FULL NEXT
        obtain ⟨bn, bw, bS⟩ := b
        have d1 := cell_at d1
        have d2 := cell_at d2
        simp only [] at d0 d1 d2
        have CASES : bn < 1 ∨ (¬ bn < 1 ∧ size < bn) ∨ (¬ bn < 1 ∧ ¬ size < bn ∧ bn < size ∧ l.length ≠ k + 1) ∨ ((¬ bn < 1 ∧ ¬ size < bn) ∧ (¬ bn < size ∨ bn < size ∧ l.length = k + 1)) := by omega
        rcases CASES with b1 | ⟨b1, b2⟩ | ⟨b1, b2, b3, b4⟩ | ⟨⟨b1, b2⟩, b3⟩
        · have hb := Lib.hid (BAD.out (.inl b1))
          clear BAD FULL NEXT
          go_wp2_with fail
          go_ret
          exact ⟨_, rfl, FErr.new E _ _ (by decide) _ _ (by simp) _ hb.out, (belA _).alloc (belA _).size _⟩
        · have hb := Lib.hid (BAD.out (.inr (.inl b2)))
          clear BAD FULL NEXT
          go_wp2_with fail
          go_ret
          exact ⟨_, rfl, FErr.new E _ _ (by decide) _ _ (by simp) _ hb.out, (belA _).alloc (belA _).size _⟩
        · have hb := Lib.hid (BAD.out (.inr (.inr (.inl ⟨b3, by simpa using b4⟩))))
          have hlb : ((k : Int) == (l.length : Int) - 1) = false := by simp; omega
          clear BAD FULL NEXT b4
          go_wp2_with fail
          go_ret
          exact ⟨_, rfl, FErr.new E _ _ (by decide) _ _ (by simp) _ hb.out, (belA _).alloc (belA _).size _⟩
        · have b3' : ¬ bn < size ∨ bn < size ∧ ((k : Int) == (l.length : Int) - 1) = true := by
            rcases b3 with h | ⟨h, h'⟩
            · exact .inl h
            · exact .inr ⟨h, by simp; omega⟩
          have GOODB : Hid (0 ≤ bw → bw < 4294967296 → ¬ badB ⟨bn, bw, bS⟩ size (decide (l.length = k + 1))) := fun h1 h2 h => by
            unfold badB at h
            simp only [decide_eq_false_iff_not] at h
            omega
          clear b3
          by_cases b5 : bw < 0
          · have hb := Lib.hid (BAD.out (.inr (.inr (.inr (.inl b5)))))
            clear BAD FULL NEXT GOODB
            rcases b3' with b3 | ⟨b3, b4⟩
            all_goals
              go_wp2_with fail
              go_ret
              exact ⟨_, rfl, FErr.new E _ _ (by decide) _ _ (by simp) _ hb.out, (belA _).alloc (belA _).size _⟩
          · by_cases b6 : 4294967296 ≤ bw
            · have hb := Lib.hid (BAD.out (.inr (.inr (.inr (.inr b6)))))
              clear BAD FULL NEXT GOODB
              rcases b3' with b3 | ⟨b3, b4⟩
              all_goals
                go_wp2_with fail
                go_ret
                exact ⟨_, rfl, FErr.new E _ _ (by decide) _ _ (by simp) _ hb.out, (belA _).alloc (belA _).size _⟩
            · have b6' : ¬ bw ≥ 4294967296 := b6
              have HG := Lib.hid (GOODB.out (by omega) (by omega))
              clear GOODB BAD
              by_cases b7 : 4000 < a + bn
              · have hb := Lib.hid (FULL.out HG.out b7)
                clear FULL NEXT
                rcases b3' with b3 | ⟨b3, b4⟩
                all_goals
                  go_wp2_with fail
                  go_ret
                  exact ⟨_, rfl, FErr.new E _ _ (by decide) _ _ (by simp) _ hb.out, (belA _).alloc (belA _).size _⟩
              · have hb := Lib.hid (NEXT.out HG.out b7)
                clear FULL NEXT
                rcases b3' with b3 | ⟨b3, b4⟩
                all_goals
                  go_wp2_with fail
                  go_roundw
                  case rel => exact ⟨k + 1, _, by go_num, KK.out, rfl, by omega, by omega, hb.out, belA _⟩
                  case measure => simp [intOf]; omega
      · have hltI : ¬ (k : Int) < l.length := by omega
        have hb := Lib.hid (HF.out.trans (chkA_end (size := size) (all := a) (by omega : l.length ≤ k)))
        go_wp2_with fail
        go_ret
        exact ⟨_, rfl, by rw [hb.out]; exact FErr.nil E _, bel⟩
  · have c2 : w.cell? ⟨0, 0, none⟩ = some (errv (E 2)) := hB
    have hchk := chk_no (l := l) hs
    have HCH := Lib.hid hchk
    have HSW := Lib.hid (fun w => swell_no size w hs)
    clear hs hchk hB
    go_enter Tryd.func22, Tryd.ntmps22
    go_wp2_with (go_at_call 50; refine (HSW.out _).mono ?_; rintro e w' ⟨rfl, rfl⟩)
    go_ret
    exact ⟨_, rfl, by rw [HCH.out]; exact FErr.bare E w (by decide), Below.refl _ _⟩
end Go.Proofs.YtkhjhbgoccljfaaDoor
