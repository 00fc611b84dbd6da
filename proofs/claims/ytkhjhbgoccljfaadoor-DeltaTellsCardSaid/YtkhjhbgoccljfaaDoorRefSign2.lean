/- Contracts of the document's FindOf, SizeOf, BlocksOf, SignText. -/
import Derived.Test.YtkhjhbgoccljfaaDoorRefSign
import Derived.Test.YtkhjhbgoccljfaaDoorRefNum
import Derived.Test.YtkhjhbgoccljfaaDoorSignLaws
namespace Go.Proofs.YtkhjhbgoccljfaaDoor
open Go.RowKit
set_option linter.unusedVariables false

set_option maxRecDepth 100000 in
set_option maxHeartbeats 1600000 in
theorem rsize_any (b : Int) (w : World) : Calls Tryd.prog 27 #[.int .i64 b] w fun e w' => e = .returned (.int .i64 (sizeN b)) ∧ w = w' := by
  have fin : ∀ n : Nat, (n = 4 ∧ b ≤ 16 ∨ n = 8 ∧ 16 < b ∧ b ≤ 64 ∨ n = 16 ∧ 64 < b ∧ b ≤ 256 ∨ n = 32 ∧ 256 < b ∧ b ≤ 1024 ∨ n = 64 ∧ 1024 < b) → n = sizeN b := by
    intro n h; unfold sizeN
    rcases h with ⟨rfl, h⟩ | ⟨rfl, h, h'⟩ | ⟨rfl, h, h'⟩ | ⟨rfl, h, h'⟩ | ⟨rfl, h⟩ <;> ((repeat' split) <;> omega)
  have FIN := Lib.hid fin
  clear fin
  go_enter Tryd.func27, Tryd.ntmps27
  go_wp2_with fail
  go_loop [3] (fun v => ∃ n : Nat, v = .int .i64 n ∧ (n = 4 ∨ n = 8 ∧ 16 < b ∨ n = 16 ∧ 64 < b ∨ n = 32 ∧ 256 < b ∨ n = 64 ∧ 1024 < b)) (fun v => 64 - (intOf v).toNat)
  case atStart => exact ⟨4, rfl, .inl rfl⟩
  case round =>
    obtain ⟨n, rfl, h⟩ := hrel
    rcases h with rfl | ⟨rfl, h⟩ | ⟨rfl, h⟩ | ⟨rfl, h⟩ | ⟨rfl, h⟩
    · by_cases t : b ≤ 16
      · go_wp2_with fail
        go_ret
        exact ⟨ret_int (by rw [← FIN.out 4 (by omega)]; rfl), rfl⟩
      · go_wp2_with fail
        go_round
        case rel => exact ⟨8, by go_num, by omega⟩
        case measure => simp [intOf]
    · by_cases t : b ≤ 64
      · go_wp2_with fail
        go_ret
        exact ⟨ret_int (by rw [← FIN.out 8 (by omega)]; rfl), rfl⟩
      · go_wp2_with fail
        go_round
        case rel => exact ⟨16, by go_num, by omega⟩
        case measure => simp [intOf]
    · by_cases t : b ≤ 256
      · go_wp2_with fail
        go_ret
        exact ⟨ret_int (by rw [← FIN.out 16 (by omega)]; rfl), rfl⟩
      · go_wp2_with fail
        go_round
        case rel => exact ⟨32, by go_num, by omega⟩
        case measure => simp [intOf]
    · by_cases t : b ≤ 1024
      · go_wp2_with fail
        go_ret
        exact ⟨ret_int (by rw [← FIN.out 32 (by omega)]; rfl), rfl⟩
      · go_wp2_with fail
        go_round
        case rel => exact ⟨64, by go_num, by omega⟩
        case measure => simp [intOf]
    · go_wp2_with fail
      go_ret
      exact ⟨ret_int (by rw [← FIN.out 64 (by omega)]; rfl), rfl⟩

set_option maxRecDepth 100000 in
set_option maxHeartbeats 1600000 in
theorem rfind_any (s0 : Option Addr) (n0 c0 : Nat) (l : List Blk) (s : ByteArray) (w : World) (hs : s.size ≤ 100000) (hl : SliceIs w (.slice s0 n0 c0) 3 (bcells l)) :
    Calls Tryd.prog 29 #[.slice s0 n0 c0, .string s] w fun e w' => e = .returned (.int .i64 (findI l (blk s.data.toList))) ∧ w = w' := by
  have hlen : l.length = n0 ∧ c0 ≤ maxLen ∧ n0 ≤ c0 := by
    obtain ⟨s0', n0', c0', e1, e2, e3, e4, _⟩ := hl.get
    cases e1
    rw [bcells_len] at e2
    exact ⟨by omega, e4, e3⟩
  obtain ⟨rfl, hc0, hc1⟩ := hlen
  unfold maxLen at hc0
  have HLS := Lib.hid hl
  clear hl
  have hwl := ws_bd s.data.toList
  obtain ⟨hw0, hw1⟩ := hwl
  have hsl : s.data.toList.length = s.size := by simp
  have hx : blk s.data.toList = ⟨s.size, ws s.data.toList, csum s.data.toList⟩ := by rw [blk_is, hsl]
  rw [hx]
  clear hx hsl
  have SO := Lib.hid (fun w => sumOf_any s w (by omega))
  have WO := Lib.hid (fun w => weakOf_any s w hs)
  have hcl := csum_lt s.data.toList
  have hcm : ((csum s.data.toList : Nat) : Int) % 4294967296 = (csum s.data.toList : Nat) := by omega
  have HI := Lib.hid (fun (e : findI l ⟨s.size, ws s.data.toList, csum s.data.toList⟩ = findB (l.drop 0) ⟨s.size, ws s.data.toList, csum s.data.toList⟩ 0) => e)
  have HI2 : Hid (findI l ⟨s.size, ws s.data.toList, csum s.data.toList⟩ = findB (l.drop 0) ⟨s.size, ws s.data.toList, csum s.data.toList⟩ 0) := Lib.hid rfl
  generalize ws s.data.toList = sw at *
  generalize csum s.data.toList = sc at *
  clear HI
  go_enter Tryd.func29, Tryd.ntmps29
  go_wp2_with (first | (go_at_call 52; refine (WO.out _).mono ?_; rintro e w' ⟨rfl, rfl⟩) | (go_at_call 13; refine (SO.out _).mono ?_; rintro e w' ⟨rfl, rfl⟩))
  go_loop [7] (fun i => ∃ k : Nat, i = .int .i64 k ∧ k ≤ l.length ∧ findI l ⟨s.size, sw, sc⟩ = findB (l.drop k) ⟨s.size, sw, sc⟩ k) (fun i => l.length - (intOf i).toNat)
  case atStart => exact ⟨0, rfl, by omega, HI2.out⟩
  case round =>
    obtain ⟨k, rfl, hk, hf⟩ := hrel
    have HF := Lib.hid hf
    clear hf
    by_cases hlt : k < l.length
    · have hltI : (k : Int) < l.length := by omega
      obtain ⟨s0', n0', c0', e1, _, _, _, g1⟩ := HLS.out.get
      cases e1
      obtain ⟨g2, g3, g4⟩ := bcells_get l k hlt
      obtain ⟨a, rfl, d0⟩ := g1 _ _ g2
      obtain ⟨a', e', d1⟩ := g1 _ _ g3
      cases e'
      obtain ⟨a', e', d2⟩ := g1 _ _ g4
      cases e'
      clear g1 g2 g3 g4
      have KK := Lib.hid (show k + 1 ≤ l.length by omega)
      have HIT := Lib.hid (findB_drop_hit l ⟨s.size, sw, sc⟩ k hlt)
      have MISS := Lib.hid (findB_drop_miss l ⟨s.size, sw, sc⟩ k hlt)
      have x1 : (0 : Int) ≤ k := by omega
      have x2 : (k : Int).toNat = k := by omega
      generalize l[k] = b at d0 d1 d2 HIT MISS
      obtain ⟨bn, bw, bS⟩ := b
      simp only [] at d0 d1 d2
      have d1 := cell_at d1
      have d2 := cell_at d2
      by_cases e0 : bn = s.size
      · subst e0
        by_cases e1 : bw = sw
        · subst e1
          by_cases e2 : bS = sc
          · subst e2
            go_wp2_with fail
            go_ret
            exact ⟨ret_int (by rw [HF.out, HIT.out (by simp)]), rfl⟩
          · have hb : ((bS : Int) == ((sc : Nat) : Int)) = false := by simp; omega
            have M := Lib.hid (MISS.out (by intro h; cases h; exact e2 rfl))
            clear e2
            go_wp2_with fail
            go_round
            case rel => exact ⟨k + 1, by go_num, KK.out, by rw [HF.out, M.out]⟩
            case measure => simp [intOf]; omega
        · have hb : (bw == sw) = false := by simp [e1]
          have M := Lib.hid (MISS.out (by intro h; cases h; exact e1 rfl))
          clear e1
          go_wp2_with fail
          go_round
          case rel => exact ⟨k + 1, by go_num, KK.out, by rw [HF.out, M.out]⟩
          case measure => simp [intOf]; omega
      · have hb : (bn == (s.size : Int)) = false := by simp [e0]
        have M := Lib.hid (MISS.out (by intro h; cases h; exact e0 rfl))
        clear e0
        go_wp2_with fail
        go_round
        case rel => exact ⟨k + 1, by go_num, KK.out, by rw [HF.out, M.out]⟩
        case measure => simp [intOf]; omega
    · have hltI : ¬ (k : Int) < l.length := by omega
      have hend := Lib.hid (findB_end l ⟨s.size, sw, sc⟩ k (by omega))
      go_wp2_with fail
      go_ret
      exact ⟨ret_int (by rw [HF.out, hend.out]), rfl⟩

theorem sub_list' (s : ByteArray) (i k e : Nat) (hk : e = i + k) : s.extract i e = bs ((s.data.toList.drop i).take k) := by
  apply eq_bs
  subst hk
  simp
set_option maxRecDepth 100000 in
set_option maxHeartbeats 3200000 in
theorem rblocks_any (s : ByteArray) (size : Nat) (w : World) (hs : s.size ≤ 4000) (h1 : 1 ≤ size) (h2 : size ≤ 64) :
    Calls Tryd.prog 18 #[.string s, .int .i64 size] w fun e w' => ∃ v, e = .returned v ∧ w'.ownsRow w.heap.size 92 3 v (blks size s.data.toList).length (bcells (blks size s.data.toList)) ∧ Below w.heap.size w w' := by
  obtain ⟨i0, hi, hz0, hz1, hz2⟩ := info_parts info_blk
  have SUB := fun i k e hk => sub_list' s i k e hk
  obtain ⟨L, hL⟩ : ∃ L, L = s.data.toList := ⟨_, rfl⟩
  rw [← hL] at SUB ⊢
  have hlen : L.length = s.size := by rw [hL]; simp
  have HL := Lib.hid hlen
  have HSUB := Lib.hid SUB
  clear hL hlen SUB
  go_enter Tryd.func18, Tryd.ntmps18
  go_wp2_with fail
  go_loopw [5, 6, 7, 8] (fun out t _ _ wr => ∃ j : Nat, t = .int .i64 (j * size : Nat) ∧ j * size < s.size + size ∧ wr.ownsRow w.heap.size 92 3 out j (bcells (blksN size L j)) ∧ Below w.heap.size w wr) (fun _ t _ _ _ => s.size + size - (intOf t).toNat)
  case atStart => exact ⟨0, by simp, by omega, by rw [blksN_zero, bcells_nil]; exact World.ownsRow_nil _ _ _ _, Below.refl _ _⟩
  case round =>
    obtain ⟨j, rfl, hj, hown, bel⟩ := hrel
    obtain ⟨R, hR⟩ : ∃ R, R = (L.drop (j * size)).take size := ⟨_, rfl⟩
    have hRl : R.length ≤ size := by rw [hR]; simp; omega
    have hsu : blksN size L (j + 1) = blksN size L j ++ [blk R] := by rw [blksN_succ, hR]
    have hjm : (j + 1) * size = j * size + size := by rw [Nat.add_mul]; omega
    have hjl : j ≤ j * size := Nat.le_mul_of_pos_right _ (by omega)
    have hend : ¬ j * size < s.size → cntOf size L.length = j := fun h => cnt_is (by rw [HL.out]; omega) (by rw [HL.out]; omega)
    have EX1 : j * size + size ≤ s.size → s.extract (j * size) (j * size + size) = bs R := fun h => by rw [HSUB.out _ size _ rfl, ← hR]
    have EX2 : ¬ j * size + size ≤ s.size → j * size < s.size → s.extract (j * size) s.size = bs R := fun h h' => by
      rw [HSUB.out _ (s.size - j * size) _ (by omega), hR]
      congr 1
      rw [List.take_of_length_le (by rw [List.length_drop, HL.out]; omega), List.take_of_length_le (by rw [List.length_drop, HL.out]; omega)]
    have hrel : ∀ w2 v v', wr.ownsRow w.heap.size 92 3 v j (bcells (blksN size L j)) → w2.ownsRow w.heap.size 92 3 v' (j + 1) (bcells (blksN size L j) ++ (blk R).cells) →
        (wr.alloc (.cells #[.int .i64 R.length, .int .i64 (ws R), .int .u32 (csum R)] 92)).grownBy w2 v.ownBlock →
        w2.ownsRow w.heap.size 92 3 v' (j + 1) (bcells (blksN size L (j + 1))) ∧ Below w.heap.size w w2 := by
      intro w2 v v' h0 h1 hg
      refine ⟨by rw [hsu, bcells_append, bcells_one]; exact h1, (bel.alloc bel.size _).grown hg (Nat.le_trans bel.size (by simp)) (fun k hk => (h0.lt k hk).1)⟩
    have hcells : (blk R).cells = [.int .i64 R.length, .int .i64 (ws R), .int .u32 (csum R)] := by rw [blk_is]; rfl
    have hJM : Hid ((j + 1) * size = j * size + size) := Lib.hid hjm
    generalize j * size = m at *
    have HEND := Lib.hid hend
    have HREL := Lib.hid hrel
    have HCELLS := Lib.hid hcells
    have WO := Lib.hid (fun w' => weakOf_any (bs R) w' (by rw [bs_size]; omega))
    have SO := Lib.hid (fun w' => sumOf_any (bs R) w' (by rw [bs_size]; omega))
    rw [bs_list] at WO SO
    have hcl := csum_lt R
    have hcm : ((csum R : Nat) : Int) % 4294967296 = (csum R : Nat) := by omega
    have HEX1 := Lib.hid EX1
    have HEX2 := Lib.hid EX2
    have HN3 : Hid (∀ j u', (blk R).cells[j]? = some u' → (wr.alloc (.cells #[.int .i64 R.length, .int .i64 (ws R), .int .u32 (csum R)] 92)).cell? ((⟨wr.heap.size, 0, none⟩ : Addr).add j) = some u') := by
      show ∀ j u', _
      rw [HCELLS.out]; exact three_news (heap_alloc_new _ _)
    have HON : Hid (∀ u ∈ (blk R).cells, u.oneCell' = true) := fun u hu => bcells_cell [blk R] u (by rw [bcells_one]; exact hu)
    have HBL : Hid ((blk R).cells.length = 1 * 3) := Blk.cells_len _
    have bsz := bel.size
    have x1 : (0 : Int) ≤ m := by omega
    have x2 : (m : Int).toNat = m := by omega
    clear hR hsu hjm hend hrel EX1 EX2 hcells
    by_cases hpos : m < s.size
    · have hposI : (m : Int) < s.size := by omega
      by_cases hle : m + size ≤ s.size
      · have hleI : ¬ (s.size : Int) < (m : Int) + size := by omega
        have x3 : ((m : Int) + (size : Int)).toNat = m + size := by omega
        have hex := HEX1.out hle
        have x5 : (m : Int) ≤ (m : Int) + (size : Int) := by omega
        have x6 : (m : Int) + (size : Int) ≤ s.size := by omega
        go_wp2_with (first | (go_at_call 52; refine (WO.out _).mono ?_; rintro e w' ⟨rfl, rfl⟩) | (go_at_call 13; refine (SO.out _).mono ?_; rintro e w' ⟨rfl, rfl⟩) | (at_builtin; refine wpList_append_own _ rfl _ _ 40 rfl w.heap.size 92 i0 _ 3 24 Tryd.underlying40 hi hz0 hz1 hz2 rfl (by decide) _ _ _ rfl (hown.alloc _) ⟨wr.heap.size, 0, none⟩ 1 1 (blk R).cells rfl rfl HN3.out HON.out (by unfold maxLen; omega) (by omega) (by simp; omega) ?_; intro v' w2 hown' hgrow _))
        go_roundw
        case rel => exact ⟨j + 1, by rw [hJM.out]; go_num, by rw [hJM.out]; omega, (HREL.out _ _ _ hown hown' hgrow).1, (HREL.out _ _ _ hown hown' hgrow).2⟩
        case measure => simp [intOf]; omega
      · have hleI : (s.size : Int) < (m : Int) + size := by omega
        have hex := HEX2.out hle hpos
        have x5 : (m : Int) ≤ s.size := by omega
        have x3 : ((m : Int) + (size : Int)).toNat = m + size := by omega
        go_wp2_with (first | (go_at_call 52; refine (WO.out _).mono ?_; rintro e w' ⟨rfl, rfl⟩) | (go_at_call 13; refine (SO.out _).mono ?_; rintro e w' ⟨rfl, rfl⟩) | (at_builtin; refine wpList_append_own _ rfl _ _ 40 rfl w.heap.size 92 i0 _ 3 24 Tryd.underlying40 hi hz0 hz1 hz2 rfl (by decide) _ _ _ rfl (hown.alloc _) ⟨wr.heap.size, 0, none⟩ 1 1 (blk R).cells rfl rfl HN3.out HON.out (by unfold maxLen; omega) (by omega) (by simp; omega) ?_; intro v' w2 hown' hgrow _))
        go_roundw
        case rel => exact ⟨j + 1, by rw [hJM.out]; go_num, by rw [hJM.out]; omega, (HREL.out _ _ _ hown hown' hgrow).1, (HREL.out _ _ _ hown hown' hgrow).2⟩
        case measure => simp [intOf]; omega
    · have hposI : ¬ (m : Int) < s.size := by omega
      have hc := Lib.hid (HEND.out hpos)
      clear HEX1 HEX2
      go_wp2_with fail
      go_ret
      refine ⟨_, rfl, ?_, bel⟩
      rw [blks_len]
      unfold blks
      rw [hc.out]
      exact hown
end Go.Proofs.YtkhjhbgoccljfaaDoor
