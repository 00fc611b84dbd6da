/- Texts of one proof, one behind the other: Sign, Check, SignText, SignRead, Ops, SignLaws, FrameFlip. -/
import Derived.Test.YtdpoalbbcmkceaaGreatDoorB03
import Derived.Test.YtdpoalbbcmkceaaGreatDoorB20
import Derived.Test.YtdpoalbbcmkceaaGreatDoorB24
import Derived.Test.YtdpoalbbcmkceaaGreatDoorB21
import Derived.Test.YtdpoalbbcmkceaaGreatDoorB09
import Derived.Test.YtdpoalbbcmkceaaGreatDoorB05
import Derived.Test.YtdpoalbbcmkceaaGreatDoorB06
import Derived.Handy
import Derived.Test.YtdpoalbbcmkceaaGreatDoorB10
import Derived.Test.YtdpoalbbcmkceaaGreatDoorB23
/- Contracts of the package sign: Size, well, block, Of, Find. -/
namespace Go.Proofs.YtdpoalbbcmkceaaGreatDoor
open Go.RowKit

set_option maxRecDepth 100000 in
set_option maxHeartbeats 1600000 in
theorem size_any (b : Int) (w : World) : Calls Tryz.prog 84 #[.int .i64 b] w fun e w' => e = .returned (.int .i64 (sizeN b)) ∧ w = w' := by
  have fin : ∀ n : Nat, (n = 4 ∧ b ≤ 16 ∨ n = 8 ∧ 16 < b ∧ b ≤ 64 ∨ n = 16 ∧ 64 < b ∧ b ≤ 256 ∨ n = 32 ∧ 256 < b ∧ b ≤ 1024 ∨ n = 64 ∧ 1024 < b) → n = sizeN b := by
    intro n h; unfold sizeN
    rcases h with ⟨rfl, h⟩ | ⟨rfl, h, h'⟩ | ⟨rfl, h, h'⟩ | ⟨rfl, h, h'⟩ | ⟨rfl, h⟩ <;> ((repeat' split) <;> omega)
  have FIN := Lib.hid fin
  clear fin
  go_enter Tryz.func84, Tryz.ntmps84
  go_wp2_with fail
  go_loop [3] (fun v => ∃ n : Nat, v = .int .i64 n ∧ (n = 4 ∨ n = 8 ∧ 16 < b ∨ n = 16 ∧ 64 < b ∨ n = 32 ∧ 256 < b ∨ n = 64 ∧ 1024 < b)) (fun v => 64 - (intOf v).toNat)
  case atStart => exact ⟨4, rfl, .inl rfl⟩
  case round =>
    obtain ⟨n, rfl, h⟩ := hrel
    rcases h with rfl | ⟨rfl, h⟩ | ⟨rfl, h⟩ | ⟨rfl, h⟩ | ⟨rfl, h⟩
    · by_cases t : (16 : Int) < b
      · go_wp2_with fail
        go_round
        case rel => exact ⟨8, by go_num, by omega⟩
        case measure => simp [intOf]
      · go_wp2_with fail
        go_ret
        exact ⟨ret_int (by rw [← FIN.out 4 (by omega)]; rfl), rfl⟩
    · by_cases t : (64 : Int) < b
      · go_wp2_with fail
        go_round
        case rel => exact ⟨16, by go_num, by omega⟩
        case measure => simp [intOf]
      · go_wp2_with fail
        go_ret
        exact ⟨ret_int (by rw [← FIN.out 8 (by omega)]; rfl), rfl⟩
    · by_cases t : (256 : Int) < b
      · go_wp2_with fail
        go_round
        case rel => exact ⟨32, by go_num, by omega⟩
        case measure => simp [intOf]
      · go_wp2_with fail
        go_ret
        exact ⟨ret_int (by rw [← FIN.out 16 (by omega)]; rfl), rfl⟩
    · by_cases t : (1024 : Int) < b
      · go_wp2_with fail
        go_round
        case rel => exact ⟨64, by go_num, by omega⟩
        case measure => simp [intOf]
      · go_wp2_with fail
        go_ret
        exact ⟨ret_int (by rw [← FIN.out 32 (by omega)]; rfl), rfl⟩
    · go_wp2_with fail
      go_ret
      exact ⟨ret_int (by rw [← FIN.out 64 (by omega)]; rfl), rfl⟩

theorem swell_yes (n : Int) (w : World) (h : 1 ≤ n ∧ n ≤ 64) : Calls Tryz.prog 116 #[.int .i64 n] w fun e w' => e = .returned (.bool true) ∧ w = w' := by
  obtain ⟨h1, h2⟩ := h
  go_enter Tryz.func116, Tryz.ntmps116
  go_wp2_with fail
  go_ret
  exact ⟨by first | rfl | exact ret_bool (by simp [*]), rfl⟩
theorem swell_no (n : Int) (w : World) (h : ¬ (1 ≤ n ∧ n ≤ 64)) : Calls Tryz.prog 116 #[.int .i64 n] w fun e w' => e = .returned (.bool false) ∧ w = w' := by
  have h' : n < 1 ∨ 1 ≤ n ∧ 64 < n := by omega
  clear h
  rcases h' with h1 | ⟨h1, h2⟩
  all_goals
    go_enter Tryz.func116, Tryz.ntmps116
    go_wp2_with fail
    go_ret
    exact ⟨by first | rfl | exact ret_bool (by simp [*]), rfl⟩

def Blk.val (b : Blk) : Value := .agg #[.int .i64 b.N, .int .i64 b.W, .int .u32 b.S]
set_option maxRecDepth 100000 in
theorem block_any (s : ByteArray) (w : World) (hs : s.size ≤ 100000) :
    Calls Tryz.prog 117 #[.string s] w fun e w' => e = .returned (blk s.data.toList).val ∧ Below w.heap.size w w' := by
  have hl : s.data.toList.length = s.size := by simp
  have HL := Lib.hid hl
  clear hl
  go_enter Tryz.func117, Tryz.ntmps117
  go_wp2_with (first | (go_at_call 120; refine (weakSum_any _ _ (by omega)).mono ?_; rintro e w' ⟨rfl, rfl⟩) | (go_at_call 27; refine (sum_any _ _ (by omega)).mono ?_; rintro e w' ⟨rfl, rfl⟩))
  go_returns
  refine ⟨?_, (Below.refl _ w).alloc (Nat.le_refl _) _⟩
  rw [blk_is, HL.out]
  rfl

theorem info_blk : (Tryz.prog.info? 162).map (fun i => (i.zero, i.size, i.bytes)) = some (some (.agg #[.int .i64 0, .int .i64 0, .int .u32 0]), 3, 24) := by kernel_rfl
theorem three_news {w : World} {b : Nat} {u0 u1 u2 : Value} (h : w.heap[b]? = some (.cells #[u0, u1, u2] 162 (0, 0))) : ∀ j u', [u0, u1, u2][j]? = some u' → w.cell? ((⟨b, 0, none⟩ : Addr).add j) = some u' := by
  intro j u' hj
  match j, hj with
  | 0, hj => simp at hj; subst hj; simp [World.cell?, h, Addr.add]
  | 1, hj => simp at hj; subst hj; simp [World.cell?, h, Addr.add]
  | 2, hj => simp at hj; subst hj; simp [World.cell?, h, Addr.add]

theorem of_no (E : Nat → Addr) (s : ByteArray) (size : Int) (w : World) (h : ¬ (s.size ≤ 4000 ∧ 1 ≤ size ∧ size ≤ 64)) (hB : Has E w 2) :
    Calls Tryz.prog 85 #[.string s, .int .i64 size] w fun e w' => e = .returned (.tuple #[.slice none 0 0, ev E 2]) ∧ Drew w w' := by
  have c2 : w.cell? ⟨1, 0, none⟩ = some (errv (E 2)) := hB
  clear hB
  rw [ev_is E (by decide)]
  by_cases h1 : s.size ≤ 4000
  · have hI : ¬ (4000 : Int) < s.size := by omega
    have h2 : ¬ (1 ≤ size ∧ size ≤ 64) := by omega
    have H2 := Lib.hid h2
    clear h h1 h2
    go_enter Tryz.func85, Tryz.ntmps85
    go_wp2_with (go_at_call 116; refine (swell_no _ _ H2.out).mono ?_; rintro e w' ⟨rfl, rfl⟩)
    go_quiet (fail)
    go_wp2_with fail
    go_ret2
    exact ⟨rfl, Drew.drewN _ _⟩
  · have hI : (4000 : Int) < s.size := by omega
    clear h h1
    go_enter Tryz.func85, Tryz.ntmps85
    go_wp2_with fail
    go_quiet (fail)
    go_wp2_with fail
    go_ret2
    exact ⟨rfl, Drew.drewN _ _⟩

set_option maxRecDepth 100000 in
set_option maxHeartbeats 1600000 in
theorem of_yes (s : ByteArray) (size : Nat) (w : World) (hs : s.size ≤ 4000) (h1 : 1 ≤ size) (h2 : size ≤ 64) :
    Calls Tryz.prog 85 #[.string s, .int .i64 size] w fun e w' => ∃ v, e = .returned (.tuple #[v, .nilIface]) ∧ w'.ownsRow w.heap.size 162 3 v (blks size s.data.toList).length (bcells (blks size s.data.toList)) ∧ Below w.heap.size w w' := by
  obtain ⟨i0, hi, hz0, hz1, hz2⟩ := info_parts info_blk
  obtain ⟨L, hL⟩ : ∃ L, L = s.data.toList := ⟨_, rfl⟩
  rw [← hL]
  have hlen : L.length = s.size := by rw [hL]; simp
  have hsL : s = bs (L.drop (0 * size)) := by rw [hL]; simp [bs_of]
  have HL := Lib.hid hlen
  have HS := Lib.hid hsL
  clear hL hlen hsL
  have hI : ¬ (4000 : Int) < s.size := by omega
  have H2 := Lib.hid (show 1 ≤ (size : Int) ∧ (size : Int) ≤ 64 from ⟨by omega, by omega⟩)
  go_enter Tryz.func85, Tryz.ntmps85
  go_wp2_with (go_at_call 116; refine (swell_yes _ _ H2.out).mono ?_; rintro e w' ⟨rfl, rfl⟩)
  go_loopw [0, 6, 7] (fun t out _ wr => ∃ j : Nat, t = .string (bs (L.drop (j * size))) ∧ j * size < s.size + size ∧ wr.ownsRow w.heap.size 162 3 out j (bcells (blksN size L j)) ∧ Below w.heap.size w wr) (fun t _ _ _ => strLen t)
  case atStart => exact ⟨0, congrArg Value.string HS.out, by omega, by rw [blksN_zero, bcells_nil]; exact World.ownsRow_nil _ _ _ _, Below.refl _ _⟩
  case round =>
    obtain ⟨j, rfl, hj, hown, bel⟩ := hrel
    obtain ⟨R, hR⟩ : ∃ R, R = L.drop (j * size) := ⟨_, rfl⟩
    have hRl : R.length = s.size - j * size := by rw [hR, List.length_drop, HL.out]
    have hnx : (R.drop size) = L.drop ((j + 1) * size) := by rw [hR, List.drop_drop]; congr 1; rw [Nat.add_mul]; omega
    have hsu : blksN size L (j + 1) = blksN size L j ++ [blk (R.take size)] := by rw [blksN_succ, hR]
    have hjm : (j + 1) * size = j * size + size := by rw [Nat.add_mul]; omega
    have hjl : j ≤ j * size := Nat.le_mul_of_pos_right _ (by omega)
    have hend : ¬ 0 < R.length → cntOf size L.length = j := fun h => cnt_is (by rw [HL.out]; omega) (by rw [HL.out]; omega)
    have hrel : ∀ w1 w2 v v' B, wr.ownsRow w.heap.size 162 3 v j (bcells (blksN size L j)) → blk (R.take size) = B → w2.ownsRow w.heap.size 162 3 v' (j + 1) (bcells (blksN size L j) ++ B.cells) → Below w.heap.size w w1 → w1.heap.size ≤ (w1.alloc (.cells #[.int .i64 B.N, .int .i64 B.W, .int .u32 B.S] 162)).heap.size →
        (w1.alloc (.cells #[.int .i64 B.N, .int .i64 B.W, .int .u32 B.S] 162)).grownBy w2 v.ownBlock →
        0 < R.length → (j + 1) * size < s.size + size ∧ w2.ownsRow w.heap.size 162 3 v' (j + 1) (bcells (blksN size L (j + 1))) ∧ Below w.heap.size w w2 := by
      intro w1 w2 v v' B h0 hB h1 hb _ hg hp
      refine ⟨by omega, by rw [hsu, hB, bcells_append, bcells_one]; exact h1, (hb.alloc hb.size _).grown hg (Nat.le_trans hb.size (by simp)) (fun k hk => (h0.lt k hk).1)⟩
    rw [← hR]
    generalize j * size = m at hj hRl hjm hjl
    have HN := Lib.hid hnx
    have HJM := Lib.hid hjm
    have HRL := Lib.hid hRl
    have HEND := Lib.hid hend
    have HREL := Lib.hid hrel
    have hRle : R.length ≤ 4000 := by omega
    have hj4 : 0 < R.length → j ≤ 4000 := by omega
    clear hR hnx hsu hjm hRl hend hrel
    by_cases hpos : 0 < R.length
    · have hposI : (0 : Int) < R.length := by omega
      by_cases hle : size ≤ R.length
      · have hleI : (size : Int) ≤ R.length := by omega
        have BA : ∀ w, Calls Tryz.prog 117 #[.string ((bs R).extract 0 size)] w fun e w' => e = .returned (blk (R.take size)).val ∧ Below w.heap.size w w' := fun w => by
          have := block_any ((bs R).extract 0 size) w (by rw [bs_take]; simp; omega)
          rw [bs_take, bs_list, bs_list] at this
          rw [bs_take, bs_list]
          exact this
        have hex : (bs R).extract size R.length = bs (R.drop size) := by have := bs_drop (bs R) size; simpa using this
        have HEX := Lib.hid hex
        clear hex
        generalize hB : blk (R.take size) = B at BA
        have HB := Lib.hid hB
        unfold Blk.val at BA
        have HBA := Lib.hid BA
        clear BA hB
        have KL := Lib.hid (show j ≤ 4000 by exact hj4 hpos)
        clear hj4
        go_wp2_with fail
        refine (HBA.out _).mono ?_
        rintro e w1 ⟨rfl, b1⟩
        have hown1 := owns_below hown b1
        have bel1 := below_trans' bel b1
        clear bel b1
        go_wp2_with (at_builtin; refine wpList_append_own _ rfl _ _ 119 rfl w.heap.size 162 i0 _ 3 24 Tryz.underlying119 hi hz0 hz1 hz2 rfl (by decide) _ _ _ rfl (hown1.alloc _) ⟨w1.heap.size, 0, none⟩ 1 1 B.cells rfl rfl (three_news (heap_alloc_new _ _)) (fun u hu => bcells_cell [B] u (by rw [bcells_one]; exact hu)) (by have := KL.out; unfold maxLen; omega) (by have := KL.out; omega) (by have := bel1.size; simp; omega) ?_; intro v' w2 hown' hgrow _)
        have F := HREL.out w1 w2 _ v' B hown HB.out hown' bel1 (by simp) hgrow hpos
        exact ⟨⟨j + 1, by rw [HEX.out, HN.out], F.1, F.2.1, F.2.2⟩, by rw [HEX.out, strLen_is, strLen_is, bs_size, bs_size, List.length_drop]; omega⟩
      · have hleI : (R.length : Int) < size := by omega
        have htk : R.take size = R := List.take_of_length_le (by omega)
        have hdr : R.drop size = [] := List.drop_eq_nil_of_le (by omega)
        have BA : ∀ w, Calls Tryz.prog 117 #[.string ((bs R).extract 0 R.length)] w fun e w' => e = .returned (blk (R.take size)).val ∧ Below w.heap.size w w' := fun w => by
          have := block_any ((bs R).extract 0 R.length) w (by rw [bs_take]; simp; omega)
          rw [bs_take, bs_list, bs_list, List.take_length] at this
          rw [bs_take, bs_list, List.take_length, htk]
          exact this
        have hex : (bs R).extract R.length R.length = bs (R.drop size) := by have := bs_drop (bs R) R.length; simpa [hdr] using this
        have HEX := Lib.hid hex
        have HDR := Lib.hid hdr
        clear hex htk hdr
        generalize hB : blk (R.take size) = B at BA
        have HB := Lib.hid hB
        unfold Blk.val at BA
        have HBA := Lib.hid BA
        clear BA hB
        have KL := Lib.hid (show j ≤ 4000 by exact hj4 hpos)
        clear hj4
        go_wp2_with fail
        refine (HBA.out _).mono ?_
        rintro e w1 ⟨rfl, b1⟩
        have hown1 := owns_below hown b1
        have bel1 := below_trans' bel b1
        clear bel b1
        go_wp2_with (at_builtin; refine wpList_append_own _ rfl _ _ 119 rfl w.heap.size 162 i0 _ 3 24 Tryz.underlying119 hi hz0 hz1 hz2 rfl (by decide) _ _ _ rfl (hown1.alloc _) ⟨w1.heap.size, 0, none⟩ 1 1 B.cells rfl rfl (three_news (heap_alloc_new _ _)) (fun u hu => bcells_cell [B] u (by rw [bcells_one]; exact hu)) (by have := KL.out; unfold maxLen; omega) (by have := KL.out; omega) (by have := bel1.size; simp; omega) ?_; intro v' w2 hown' hgrow _)
        have F := HREL.out w1 w2 _ v' B hown HB.out hown' bel1 (by simp) hgrow hpos
        exact ⟨⟨j + 1, by rw [← HN.out, HDR.out, bs_nil]; rfl, F.1, F.2.1, F.2.2⟩, by rw [show ByteArray.empty = bs [] from bs_nil.symm, strLen_is, strLen_is, bs_size, bs_size]; simpa using hpos⟩
    · have hposI : ¬ (0 : Int) < R.length := by omega
      go_wp2_with fail
      have hc := Lib.hid (HEND.out hpos)
      go_ret2
      refine ⟨_, rfl, ?_, bel⟩
      rw [blks_len]
      unfold blks
      rw [hc.out]
      exact hown

set_option maxRecDepth 100000 in
set_option maxHeartbeats 1600000 in
theorem find_any (s0 : Option Addr) (n0 c0 : Nat) (l : List Blk) (s : ByteArray) (w : World) (hs : s.size ≤ 100000) (hl : SliceIs w (.slice s0 n0 c0) 3 (bcells l)) :
    Calls Tryz.prog 94 #[.slice s0 n0 c0, .string s] w fun e w' => e = .returned (.int .i64 (findI l (blk s.data.toList))) ∧ Below w.heap.size w w' := by
  have hlen : l.length = n0 ∧ c0 ≤ maxLen ∧ n0 ≤ c0 := by
    obtain ⟨s0', n0', c0', e1, e2, e3, e4, _⟩ := hl.get
    cases e1
    rw [bcells_len] at e2
    exact ⟨by omega, e4, e3⟩
  obtain ⟨rfl, hc0, hc1⟩ := hlen
  unfold maxLen at hc0
  have HLS := Lib.hid hl
  clear hl
  have hwl := ws_bd s.data.toList
  obtain ⟨hw0, hw1⟩ := hwl
  have hsl : s.data.toList.length = s.size := by simp
  have hx : blk s.data.toList = ⟨s.size, ws s.data.toList, csum s.data.toList⟩ := by rw [blk_is, hsl]
  rw [hx]
  clear hx hsl
  go_enter Tryz.func94, Tryz.ntmps94
  go_wp2_with (go_at_call 120; refine (weakSum_any _ _ (by omega)).mono ?_; rintro e w' ⟨rfl, rfl⟩)
  go_loopw [12, 6, 7] (fun i _ _ wr => ∃ k : Nat, i = .int .i64 k ∧ k ≤ l.length ∧ findI l ⟨s.size, ws s.data.toList, csum s.data.toList⟩ = findB (l.drop k) ⟨s.size, ws s.data.toList, csum s.data.toList⟩ k ∧ Below w.heap.size w wr) (fun i _ _ _ => l.length - (intOf i).toNat)
  case atStart => exact ⟨0, rfl, by omega, rfl, Below.refl _ _⟩
  case round =>
    obtain ⟨k, rfl, hk, hf, bel⟩ := hrel
    have HF := Lib.hid hf
    clear hf
    by_cases hlt : k < l.length
    · have hltI : (k : Int) < l.length := by omega
      obtain ⟨s0', n0', c0', e1, _, _, _, g1⟩ := (HLS.out.below bel).get
      cases e1
      obtain ⟨g2, g3, g4⟩ := bcells_get l k hlt
      obtain ⟨a, rfl, d0⟩ := g1 _ _ g2
      obtain ⟨a', e', d1⟩ := g1 _ _ g3
      cases e'
      obtain ⟨a', e', d2⟩ := g1 _ _ g4
      cases e'
      clear g1 g2 g3 g4
      have KK := Lib.hid (show k + 1 ≤ l.length by omega)
      have HIT := Lib.hid (findB_drop_hit l ⟨s.size, ws s.data.toList, csum s.data.toList⟩ k hlt)
      have MISS := Lib.hid (findB_drop_miss l ⟨s.size, ws s.data.toList, csum s.data.toList⟩ k hlt)
      have x1 : (0 : Int) ≤ k := by omega
      have x2 : (k : Int).toNat = k := by omega
      generalize l[k] = b at d0 d1 d2 HIT MISS
      obtain ⟨bn, bw, bS⟩ := b
      simp only [] at d0 d1 d2
      have d1 := cell_at d1
      have d2 := cell_at d2
      have SUM := Lib.hid (fun w => sum_any s w hs)
      have belA := (bel.alloc bel.size (.cells #[.int .i64 bn, .int .i64 bw, .int .u32 bS] 162))
      by_cases e0 : bn = s.size
      · subst e0
        by_cases e1 : bw = ws s.data.toList
        · subst e1
          by_cases e2 : bS = csum s.data.toList
          · subst e2
            go_wp2_with fail
            go_quiet ((go_at_call 27; first | exact quiet_left (SUM.out _) | exact quiet_add_left (SUM.out _)))
            go_wp2_with fail
            go_ret
            exact ⟨ret_int (by rw [HF.out, HIT.out (by simp)]), below_drewN belA _⟩
          · have hb : ((bS : Int) == ((csum s.data.toList : Nat) : Int)) = false := by simp; omega
            have M := Lib.hid (MISS.out (by intro h; cases h; exact e2 rfl))
            clear e2
            go_wp2_with fail
            go_quiet ((go_at_call 27; first | exact quiet_left (SUM.out _) | exact quiet_add_left (SUM.out _)))
            go_wp2_with fail
            go_roundw
            case rel => exact ⟨k + 1, by go_num, KK.out, by rw [HF.out, M.out], below_drewN belA _⟩
            case measure => simp [intOf]; omega
        · have hb : (bw == ws s.data.toList) = false := by simp [e1]
          have M := Lib.hid (MISS.out (by intro h; cases h; exact e1 rfl))
          clear e1
          go_wp2_with fail
          go_quiet (fail)
          go_wp2_with fail
          go_roundw
          case rel => exact ⟨k + 1, by go_num, KK.out, by rw [HF.out, M.out], below_drewN belA _⟩
          case measure => simp [intOf]; omega
      · have hb : (bn == (s.size : Int)) = false := by simp [e0]
        have M := Lib.hid (MISS.out (by intro h; cases h; exact e0 rfl))
        clear e0
        go_wp2_with fail
        go_quiet (fail)
        go_wp2_with fail
        go_roundw
        case rel => exact ⟨k + 1, by go_num, KK.out, by rw [HF.out, M.out], below_drewN belA _⟩
        case measure => simp [intOf]; omega
    · have hltI : ¬ (k : Int) < l.length := by omega
      have hend := Lib.hid (findB_end l ⟨s.size, ws s.data.toList, csum s.data.toList⟩ k (by omega))
      go_wp2_with fail
      go_ret
      exact ⟨ret_int (by rw [HF.out, hend.out]), bel⟩
end Go.Proofs.YtdpoalbbcmkceaaGreatDoor
/- Contract of sign.Check. -/
namespace Go.Proofs.YtdpoalbbcmkceaaGreatDoor
open Go.RowKit

set_option maxRecDepth 100000 in
set_option maxHeartbeats 3200000 in
theorem check_any (E : Nat → Addr) (s0 : Option Addr) (n0 c0 : Nat) (l : List Blk) (size : Int) (w : World) (hl : SliceIs w (.slice s0 n0 c0) 3 (bcells l)) (hB : Has E w 2) (hF : Has E w 8) :
    Calls Tryz.prog 92 #[.slice s0 n0 c0, .int .i64 size] w fun e w' => ∃ v, e = .returned v ∧ FErr E w' v (chk l size).1 (chk l size).2 ∧ Below w.heap.size w w' := by
  have hlen : l.length = n0 ∧ c0 ≤ maxLen ∧ n0 ≤ c0 := by
    obtain ⟨s0', n0', c0', e1, e2, e3, e4, _⟩ := hl.get
    cases e1
    rw [bcells_len] at e2
    exact ⟨by omega, e4, e3⟩
  obtain ⟨rfl, hc0, hc1⟩ := hlen
  unfold maxLen at hc0
  have HLS := Lib.hid hl
  have HB := Lib.hid hB
  have HFL := Lib.hid hF
  clear hl hF
  by_cases hs : 1 ≤ size ∧ size ≤ 64
  · have hchk := chk_yes (l := l) hs
    have HCH := Lib.hid hchk
    have HSW := Lib.hid (fun w => swell_yes size w hs)
    obtain ⟨hs1, hs2⟩ := hs
    clear hchk hB
    go_enter Tryz.func92, Tryz.ntmps92
    go_wp2_with (go_at_call 116; refine (HSW.out _).mono ?_; rintro e w' ⟨rfl, rfl⟩)
    go_loopw [15, 5, 6, 7, 8] (fun i all _ _ _ wr => ∃ (k : Nat) (a : Int), i = .int .i64 k ∧ k ≤ l.length ∧ all = .int .i64 a ∧ 0 ≤ a ∧ a ≤ 4000 ∧ chk l size = chkA size (l.drop k) k a ∧ Below w.heap.size w wr) (fun i _ _ _ _ _ => l.length - (intOf i).toNat)
    case atStart => exact ⟨0, 0, rfl, by omega, rfl, by omega, by omega, HCH.out, Below.refl _ _⟩
    case round =>
      obtain ⟨k, a, rfl, hk, rfl, ha0, ha1, hf, bel⟩ := hrel
      have HF := Lib.hid hf
      clear hf
      by_cases hlt : k < l.length
      · have hltI : (k : Int) < l.length := by omega
        obtain ⟨s0', n0', c0', e1, _, _, _, g1⟩ := (HLS.out.below bel).get
        cases e1
        obtain ⟨g2, g3, g4⟩ := bcells_get l k hlt
        obtain ⟨ad, rfl, d0⟩ := g1 _ _ g2
        obtain ⟨a', e', d1⟩ := g1 _ _ g3
        cases e'
        obtain ⟨a', e', d2⟩ := g1 _ _ g4
        cases e'
        clear g1 g2 g3 g4
        have KK := Lib.hid (show k + 1 ≤ l.length by omega)
        have BAD := Lib.hid (fun hb => HF.out.trans (chkA_bad (size := size) (all := a) hlt hb))
        have FULL := Lib.hid (fun hb hf => HF.out.trans (chkA_full (size := size) (all := a) hlt hb hf))
        have NEXT := Lib.hid (fun hb hf => HF.out.trans (chkA_next (size := size) (all := a) hlt hb hf))
        have x1 : (0 : Int) ≤ k := by omega
        have x2 : (k : Int).toNat = k := by omega
        have c2 : wr.cell? ⟨1, 0, none⟩ = some (errv (E 2)) := HB.out.below bel
        have belA := fun o => bel.alloc bel.size o
        have c8 : wr.cell? ⟨7, 0, none⟩ = some (errv (E 8)) := HFL.out.below bel
        have z2 : 1 < wr.heap.size := World.block_lt_of_cell? wr _ c2
        have z8 : 7 < wr.heap.size := World.block_lt_of_cell? wr _ c8
        unfold errv at c2 c8
        generalize l[k] = b at d0 d1 d2 BAD FULL NEXT
        obtain ⟨bn, bw, bS⟩ := b
        have d1 := cell_at d1
        have d2 := cell_at d2
        simp only [] at d0 d1 d2
        have CASES : bn < 1 ∨ (¬ bn < 1 ∧ size < bn) ∨ (¬ bn < 1 ∧ ¬ size < bn ∧ bn < size ∧ l.length ≠ k + 1) ∨ ((¬ bn < 1 ∧ ¬ size < bn) ∧ (¬ bn < size ∨ bn < size ∧ l.length = k + 1)) := by omega
        rcases CASES with b1 | ⟨b1, b2⟩ | ⟨b1, b2, b3, b4⟩ | ⟨⟨b1, b2⟩, b3⟩
        · have hb := Lib.hid (BAD.out (.inl b1))
          clear BAD FULL NEXT
          go_wp2_with fail
          go_ret
          exact ⟨_, rfl, FErr.new E _ _ (by decide) _ _ (by simp) _ hb.out, (belA _).alloc (belA _).size _⟩
        · have hb := Lib.hid (BAD.out (.inr (.inl b2)))
          clear BAD FULL NEXT
          go_wp2_with fail
          go_ret
          exact ⟨_, rfl, FErr.new E _ _ (by decide) _ _ (by simp) _ hb.out, (belA _).alloc (belA _).size _⟩
        · have hb := Lib.hid (BAD.out (.inr (.inr (.inl ⟨b3, by simpa using b4⟩))))
          have hlb : ((k : Int) == (l.length : Int) - 1) = false := by simp; omega
          clear BAD FULL NEXT b4
          go_wp2_with fail
          go_ret
          exact ⟨_, rfl, FErr.new E _ _ (by decide) _ _ (by simp) _ hb.out, (belA _).alloc (belA _).size _⟩
        · have b3' : ¬ bn < size ∨ bn < size ∧ ((k : Int) == (l.length : Int) - 1) = true := by
            rcases b3 with h | ⟨h, h'⟩
            · exact .inl h
            · exact .inr ⟨h, by simp; omega⟩
          have GOODB : Hid (0 ≤ bw → bw < 4294967296 → ¬ badB ⟨bn, bw, bS⟩ size (decide (l.length = k + 1))) := fun h1 h2 h => by
            unfold badB at h
            simp only [decide_eq_false_iff_not] at h
            omega
          clear b3
          by_cases b5 : bw < 0
          · have hb := Lib.hid (BAD.out (.inr (.inr (.inr (.inl b5)))))
            clear BAD FULL NEXT GOODB
            rcases b3' with b3 | ⟨b3, b4⟩
            all_goals
              go_wp2_with fail
              go_ret
              exact ⟨_, rfl, FErr.new E _ _ (by decide) _ _ (by simp) _ hb.out, (belA _).alloc (belA _).size _⟩
          · by_cases b6 : 4294967296 ≤ bw
            · have hb := Lib.hid (BAD.out (.inr (.inr (.inr (.inr b6)))))
              clear BAD FULL NEXT GOODB
              rcases b3' with b3 | ⟨b3, b4⟩
              all_goals
                go_wp2_with fail
                go_ret
                exact ⟨_, rfl, FErr.new E _ _ (by decide) _ _ (by simp) _ hb.out, (belA _).alloc (belA _).size _⟩
            · have b6' : ¬ bw ≥ 4294967296 := b6
              have HG := Lib.hid (GOODB.out (by omega) (by omega))
              clear GOODB BAD
              by_cases b7 : 4000 < a + bn
              · have hb := Lib.hid (FULL.out HG.out b7)
                clear FULL NEXT
                rcases b3' with b3 | ⟨b3, b4⟩
                all_goals
                  go_wp2_with fail
                  go_ret
                  exact ⟨_, rfl, FErr.new E _ _ (by decide) _ _ (by simp) _ hb.out, (belA _).alloc (belA _).size _⟩
              · have hb := Lib.hid (NEXT.out HG.out b7)
                clear FULL NEXT
                rcases b3' with b3 | ⟨b3, b4⟩
                all_goals
                  go_wp2_with fail
                  go_roundw
                  case rel => exact ⟨k + 1, _, by go_num, KK.out, rfl, by omega, by omega, hb.out, belA _⟩
                  case measure => simp [intOf]; omega
      · have hltI : ¬ (k : Int) < l.length := by omega
        have hb := Lib.hid (HF.out.trans (chkA_end (size := size) (all := a) (by omega : l.length ≤ k)))
        go_wp2_with fail
        go_ret
        exact ⟨_, rfl, by rw [hb.out]; exact FErr.nil E _, bel⟩
  · have c2 : w.cell? ⟨1, 0, none⟩ = some (errv (E 2)) := hB
    have hchk := chk_no (l := l) hs
    have HCH := Lib.hid hchk
    have HSW := Lib.hid (fun w => swell_no size w hs)
    clear hs hchk hB
    go_enter Tryz.func92, Tryz.ntmps92
    go_wp2_with (go_at_call 116; refine (HSW.out _).mono ?_; rintro e w' ⟨rfl, rfl⟩)
    go_ret
    exact ⟨_, rfl, by rw [HCH.out]; exact FErr.bare E w (by decide), Below.refl _ _⟩
end Go.Proofs.YtdpoalbbcmkceaaGreatDoor
/- Contract of sign.Text. -/
namespace Go.Proofs.YtdpoalbbcmkceaaGreatDoor
open Go.RowKit

def bText (l : List Blk) : List UInt8 := l.flatMap fun b => num b.N.toNat ++ num b.W.toNat ++ num b.S
theorem bText_nil : bText [] = [] := rfl
theorem bText_append (a b : List Blk) : bText (a ++ b) = bText a ++ bText b := by simp [bText]
theorem bText_one (b : Blk) : bText [b] = num b.N.toNat ++ num b.W.toNat ++ num b.S := by simp [bText]
theorem bText_cons (b : Blk) (l : List Blk) : bText (b :: l) = num b.N.toNat ++ num b.W.toNat ++ num b.S ++ bText l := by simp [bText]
theorem bText_len (l : List Blk) : (bText l).length ≤ 21 * l.length := by
  induction l with
  | nil => simp [bText]
  | cons b l ih =>
    rw [bText_cons]
    have := num_len b.N.toNat
    have := num_len b.W.toNat
    have := num_len b.S
    simp only [List.length_append, List.length_cons]
    omega
def sText (l : List Blk) (size : Int) : List UInt8 := num size.toNat ++ num l.length ++ bText l
theorem sText_is (l : List Blk) (size : Int) : sText l size = num size.toNat ++ num l.length ++ bText l := rfl
attribute [irreducible] bText sText

set_option maxRecDepth 100000 in
set_option maxHeartbeats 3200000 in
theorem stext_yes (E : Nat → Addr) (s0 : Option Addr) (n0 c0 : Nat) (l : List Blk) (size : Int) (w : World) (hl : SliceIs w (.slice s0 n0 c0) 3 (bcells l)) (hS : ∀ b ∈ l, b.S < 4294967296) (hB : Has E w 2) (hF : Has E w 8)
    (hok : (chk l size).1 = 0) :
    Calls Tryz.prog 86 #[.slice s0 n0 c0, .int .i64 size] w fun e w' => e = .returned (.tuple #[.string (bs (sText l size)), .nilIface]) ∧ Below w.heap.size w w' := by
  have CH := check_any E s0 n0 c0 l size w hl hB hF
  rw [hok] at CH
  obtain ⟨k1, k2, k3, k4⟩ := chk_ok hok
  have hlen : l.length = n0 ∧ c0 ≤ maxLen ∧ n0 ≤ c0 := by
    obtain ⟨s0', n0', c0', e1, e2, e3, e4, _⟩ := hl.get
    cases e1
    rw [bcells_len] at e2
    exact ⟨by omega, e4, e3⟩
  obtain ⟨rfl, hc0, hc1⟩ := hlen
  unfold maxLen at hc0
  have HLS := Lib.hid hl
  have HB := Lib.hid hB
  have HCH := Lib.hid CH
  have HEA := Lib.hid k4
  have HSS := Lib.hid hS
  have hst := sText_is l size
  have HST := Lib.hid hst
  have hfin := doneL_zero
  have HFIN := Lib.hid hfin
  have HEZ := Lib.hid (ev_zero E)
  clear hst hfin hl hB hF CH k4 hS hok
  go_enter Tryz.func86, Tryz.ntmps86
  go_wp2_with fail
  refine HCH.out.mono ?_
  rintro e w1 ⟨v, rfl, fe, b1⟩
  rw [fe.zero]
  clear fe
  go_wp2_with fail
  have W0 := WAt.new E w1
  have bA := b1.alloc b1.size (.cells #[.slice none 0 0, .nilIface] 128)
  have hb : w.heap.size ≤ w1.heap.size := b1.size
  generalize w1.alloc (.cells #[.slice none 0 0, .nilIface] 128) = w2 at W0 bA ⊢
  generalize w1.heap.size = b at W0 hb ⊢
  clear b1
  refine (wnum_ok E b _ _ _ (by simp) W0 (HB.out.below bA) (by omega) (by omega)).mono ?_
  rintro e w3 ⟨rfl, W3, K3⟩
  have b3 := K3.old bA hb W0.lt
  clear K3 bA W0
  go_wp2_with fail
  refine (wnum_ok E b _ _ _ (by have := num_len size.toNat; simp; omega) W3 (HB.out.below b3) (by omega) (by omega)).mono ?_
  rintro e w4 ⟨rfl, W4, K4⟩
  have b4 := K4.old b3 hb W3.lt
  clear K4 b3 W3
  go_wp2_with fail
  go_loopw [28, 9] (fun i _ wr => ∃ k : Nat, i = .int .i64 k ∧ k ≤ l.length ∧ WAt E wr b (num size.toNat ++ num l.length ++ bText (l.take k)) 0 ∧ Below w.heap.size w wr) (fun i _ _ => l.length - (intOf i).toNat)
  case atStart => exact ⟨0, rfl, by omega, by simpa [bText_nil] using W4, b4⟩
  case round =>
    clear W4 b4
    obtain ⟨k, rfl, hk, W, bel⟩ := hrel
    by_cases hlt : k < l.length
    · have hltI : (k : Int) < l.length := by omega
      obtain ⟨s0', n0', c0', e1, _, _, _, g1⟩ := (HLS.out.below bel).get
      cases e1
      obtain ⟨g2, g3, g4⟩ := bcells_get l k hlt
      obtain ⟨ad, rfl, d0⟩ := g1 _ _ g2
      obtain ⟨a', e', d1⟩ := g1 _ _ g3
      cases e'
      obtain ⟨a', e', d2⟩ := g1 _ _ g4
      cases e'
      clear g1 g2 g3 g4
      have KK := Lib.hid (show k + 1 ≤ l.length by omega)
      have x1 : (0 : Int) ≤ k := by omega
      have x2 : (k : Int).toNat = k := by omega
      have hea := HEA.out _ (List.getElem_mem hlt)
      have hs := HSS.out _ (List.getElem_mem hlt)
      have htk := Lib.hid (List.take_succ_eq_append_getElem hlt)
      have hlen := bText_len (l.take k)
      have hlen2 : (l.take k).length ≤ 4000 := by simp; omega
      have hn1 := num_len size.toNat
      have hn2 := num_len l.length
      generalize l[k] = bk at d0 d1 d2 hea hs htk
      obtain ⟨bn, bw, bS⟩ := bk
      have d1 := cell_at d1
      have d2 := cell_at d2
      simp only [] at d0 d1 d2 hea hs
      obtain ⟨y1, y2, y3, y4⟩ := hea
      have hn3 := num_len bn.toNat
      have hn4 := num_len bw.toNat
      have hgb : b < wr.heap.size := W.lt
      have W1 := W.below (below_alloc' wr (.cells #[.int .i64 bn, .int .i64 bw, .int .u32 bS] 162))
      have bel1 := bel.alloc bel.size (.cells #[.int .i64 bn, .int .i64 bw, .int .u32 bS] 162)
      have G1 : (wr.alloc (.cells #[.int .i64 bn, .int .i64 bw, .int .u32 bS] 162)).heap[wr.heap.size]? = some (.cells #[.int .i64 bn, .int .i64 bw, .int .u32 bS] 162 (0, 0)) := heap_alloc_new _ _
      go_wp2_with fail
      generalize wr.alloc (.cells #[.int .i64 bn, .int .i64 bw, .int .u32 bS] 162) = v1 at W1 bel1 G1 ⊢
      generalize wr.heap.size = g at G1 hgb ⊢
      clear W bel
      refine (wnum_ok E b _ _ _ (by simp only [List.length_append]; omega) W1 (HB.out.below bel1) (by omega) (by omega)).mono ?_
      rintro e v2 ⟨rfl, W2, K2⟩
      have bel2 := K2.old bel1 hb W1.lt
      have G2 := K2.obj G1 (by omega) (by decide)
      clear K2 bel1 W1 G1
      have f1 : v2.cell? ⟨g, 1, none⟩ = some (.int .i64 bw) := by simp [World.cell?, G2]
      go_wp2_with fail
      refine (wnum_ok E b _ _ _ (by simp only [List.length_append]; omega) W2 (HB.out.below bel2) (by omega) (by omega)).mono ?_
      rintro e v3 ⟨rfl, W3, K3⟩
      have bel3 := K3.old bel2 hb W2.lt
      have G3 := K3.obj G2 (by omega) (by decide)
      clear K3 bel2 W2 G2
      have f2 : v3.cell? ⟨g, 2, none⟩ = some (.int .u32 bS) := by simp [World.cell?, G3]
      go_wp2_with fail
      refine (wnum_ok E b _ _ _ (by simp only [List.length_append]; omega) W3 (HB.out.below bel3) (by omega) (by omega)).mono ?_
      rintro e v4 ⟨rfl, W4, K4⟩
      have bel4 := K4.old bel3 hb W3.lt
      clear K4 bel3 W3 G3
      go_wp2_with fail
      go_roundw
      case rel => exact ⟨k + 1, by go_num, KK.out, by rw [htk.out, bText_append, bText_one]; simpa [List.append_assoc] using W4, bel4⟩
      case measure => simp [intOf]; omega
    · have hltI : ¬ (k : Int) < l.length := by omega
      have htk : l.take k = l := List.take_of_length_le (by omega)
      rw [htk, ← HST.out] at W
      have D := wdone_any E b _ 0 wr (fun _ => by rw [HST.out]; have := num_pos size.toNat; simp; omega) W
      rw [HFIN.out, HEZ.out] at D
      have HD := Lib.hid D
      clear D htk W
      go_wp2_with fail
      refine HD.out.mono ?_
      rintro e w9 ⟨rfl, b9⟩
      go_wp2_with fail
      go_ret2
      exact ⟨rfl, below_trans' bel (b9.below _)⟩

set_option maxRecDepth 100000 in
set_option maxHeartbeats 1600000 in
theorem stext_no (E : Nat → Addr) (s0 : Option Addr) (n0 c0 : Nat) (l : List Blk) (size : Int) (w : World) (hl : SliceIs w (.slice s0 n0 c0) 3 (bcells l)) (hB : Has E w 2) (hF : Has E w 8)
    (hok : (chk l size).1 ≠ 0) :
    Calls Tryz.prog 86 #[.slice s0 n0 c0, .int .i64 size] w fun e w' => e = .returned (.tuple #[.string (bs []), ev E (chk l size).1]) ∧ Below w.heap.size w w' := by
  have HCH := Lib.hid (check_any E s0 n0 c0 l size w hl hB hF)
  generalize (chk l size).1 = c at *
  generalize (chk l size).2 = a at *
  have HOK := Lib.hid hok
  clear hl hB hF hok
  go_enter Tryz.func86, Tryz.ntmps86
  go_wp2_with fail
  refine HCH.out.mono ?_
  rintro e w1 ⟨v, rfl, fe, b1⟩
  have BA := Lib.hid (bare_any E v c a w1 fe)
  obtain ⟨t, p, hv⟩ := fe.some HOK.out
  rw [hv] at BA ⊢
  clear fe hv
  go_wp2_with fail
  refine BA.out.mono ?_
  rintro e w2 ⟨rfl, rfl⟩
  go_wp2_with fail
  go_ret2
  exact ⟨ret2 (by rw [bs_nil]; rfl) rfl, b1⟩
end Go.Proofs.YtdpoalbbcmkceaaGreatDoor
/- Contracts of sign.Read, and of the reference's SameBlocks. -/
namespace Go.Proofs.YtdpoalbbcmkceaaGreatDoor
open Go.RowKit

/-- a block of a reader that has no error yet -/
def rdBlk (l : List UInt8) : Blk × List UInt8 × Nat :=
  (⟨rnN l 0, rnN (rnR l 0) (rnC l 0), rnN (rnR (rnR l 0) (rnC l 0)) (rnC (rnR l 0) (rnC l 0)) % 4294967296⟩,
   rnR (rnR (rnR l 0) (rnC l 0)) (rnC (rnR l 0) (rnC l 0)),
   if rnC (rnR (rnR l 0) (rnC l 0)) (rnC (rnR l 0) (rnC l 0)) = 0 ∧ 4294967295 < rnN (rnR (rnR l 0) (rnC l 0)) (rnC (rnR l 0) (rnC l 0)) then 1 else rnC (rnR (rnR l 0) (rnC l 0)) (rnC (rnR l 0) (rnC l 0)))
theorem rdBlk_is (l l1 l2 : List UInt8) (c1 c2 : Nat) (h1 : rnR l 0 = l1) (h2 : rnC l 0 = c1) (h3 : rnR l1 c1 = l2) (h4 : rnC l1 c1 = c2) :
    rdBlk l = (⟨rnN l 0, rnN l1 c1, rnN l2 c2 % 4294967296⟩, rnR l2 c2, if rnC l2 c2 = 0 ∧ 4294967295 < rnN l2 c2 then 1 else rnC l2 c2) := by
  subst h1 h2 h3 h4; rfl
theorem rdBlk_len (l : List UInt8) (h : (rdBlk l).2.2 = 0) : (rdBlk l).2.1.length < l.length := by
  have hi := rdBlk_is l _ _ _ _ rfl rfl rfl rfl
  rw [hi] at h ⊢
  simp only [] at h ⊢
  split at h
  · simp at h
  · have h3 := rnC_zero h
    have h2 := rnC_zero h3.1
    have := gR_short l (by have := (rnC_zero (l := l) (c := 0) h2.1).2; exact this)
    have e1 := (rn_zero l).2.1
    have l2 := rnR_len (rnR l 0) (rnC l 0)
    have l3 := rnR_len (rnR (rnR l 0) (rnC l 0)) (rnC (rnR l 0) (rnC l 0))
    rw [e1] at l2 l3 ⊢
    omega
def rdLoop : Nat → List UInt8 → Nat → List Blk → List Blk × List UInt8 × Nat
  | 0, l, c, out => (out, l, c)
  | f + 1, l, c, out => if c = 0 then rdLoop f (rdBlk l).2.1 (rdBlk l).2.2 (out ++ [(rdBlk l).1]) else (out, l, c)
theorem rdLoop_end (l : List UInt8) (c : Nat) (out : List Blk) : rdLoop 0 l c out = (out, l, c) := rfl
theorem rdLoop_err (f : Nat) (l : List UInt8) {c : Nat} (h : c ≠ 0) (out : List Blk) : rdLoop f l c out = (out, l, c) := by
  cases f with
  | zero => rfl
  | succ f => simp [rdLoop, h]
theorem rdLoop_step {f : Nat} (hf : 0 < f) (l : List UInt8) (out : List Blk) : rdLoop f l 0 out = rdLoop (f - 1) (rdBlk l).2.1 (rdBlk l).2.2 (out ++ [(rdBlk l).1]) := by
  obtain ⟨g, rfl⟩ : ∃ g, f = g + 1 := ⟨f - 1, by omega⟩
  simp [rdLoop]
def rd0 (L : List UInt8) : List Blk × List UInt8 × Nat := rdLoop (rnN (rnR L 0) (rnC L 0)) (rnR (rnR L 0) (rnC L 0)) (rnC (rnR L 0) (rnC L 0)) []
/-- blocks that are read, their size, an error's number -/
def readSg (L : List UInt8) : List Blk × Nat × Nat :=
  if rEnd (rd0 L).2.1 (rd0 L).2.2 ≠ 0 then ([], 0, rEnd (rd0 L).2.1 (rd0 L).2.2)
  else if (chk (rd0 L).1 (rnN L 0)).1 ≠ 0 then ([], 0, (chk (rd0 L).1 (rnN L 0)).1) else ((rd0 L).1, rnN L 0, 0)
theorem readSg_end {L l : List UInt8} {c : Nat} {out : List Blk} (h : rd0 L = (out, l, c)) (h1 : rEnd l c ≠ 0) : readSg L = ([], 0, rEnd l c) := by simp [readSg, h, h1]
theorem readSg_bad {L l : List UInt8} {c : Nat} {out : List Blk} (h : rd0 L = (out, l, c)) (h1 : rEnd l c = 0) (h2 : (chk out (rnN L 0)).1 ≠ 0) : readSg L = ([], 0, (chk out (rnN L 0)).1) := by simp [readSg, h, h1, h2]
theorem readSg_ok {L l : List UInt8} {c : Nat} {out : List Blk} (h : rd0 L = (out, l, c)) (h1 : rEnd l c = 0) (h2 : (chk out (rnN L 0)).1 = 0) : readSg L = (out, rnN L 0, 0) := by simp [readSg, h, h1, h2]
theorem rd0_is {L l1 l2 : List UInt8} {c1 c2 : Nat} (h1 : rnR L 0 = l1) (h2 : rnC L 0 = c1) (h3 : rnR l1 c1 = l2) (h4 : rnC l1 c1 = c2) : rd0 L = rdLoop (rnN l1 c1) l2 c2 [] := by subst h1 h2 h3 h4; rfl
attribute [irreducible] rdBlk rdLoop rd0 readSg

set_option maxRecDepth 100000 in
set_option maxHeartbeats 3200000 in
theorem sread_any (E : Nat → Addr) (s : ByteArray) (w : World) (hs : s.size ≤ 1000000000) (hT : Has E w 1) (hB : Has E w 2) (hF : Has E w 8) :
    Calls Tryz.prog 63 #[.string s] w fun e w' => ∃ v, e = .returned (.tuple #[v, .int .i64 (readSg s.data.toList).2.1, ev E (readSg s.data.toList).2.2]) ∧
      w'.ownsRow w.heap.size 162 3 v (readSg s.data.toList).1.length (bcells (readSg s.data.toList).1) ∧ Below w.heap.size w w' := by
  obtain ⟨i0, hi, hz0, hz1, hz2⟩ := info_parts info_blk
  obtain ⟨L, hL⟩ : ∃ L, L = s.data.toList := ⟨_, rfl⟩
  have hLl : L.length = s.size := by rw [hL]; simp
  rw [← hL]
  have hsb : s = bs L := by rw [hL, bs_of]
  have hLb : L.length ≤ 1000000000 := by omega
  clear hLl hL hs
  subst hsb
  have HB := Lib.hid hB
  have HT := Lib.hid hT
  have HFU := Lib.hid hF
  obtain ⟨l1, e1⟩ : ∃ x, rnR L 0 = x := ⟨_, rfl⟩
  obtain ⟨c1, e2⟩ : ∃ x, rnC L 0 = x := ⟨_, rfl⟩
  obtain ⟨l2, e3⟩ : ∃ x, rnR l1 c1 = x := ⟨_, rfl⟩
  obtain ⟨c2, e4⟩ : ∃ x, rnC l1 c1 = x := ⟨_, rfl⟩
  have hr0 := rd0_is e1 e2 e3 e4
  have hl1 := rnR_len L 0
  have hl2 := rnR_len l1 c1
  rw [e1] at hl1
  rw [e3] at hl2
  have N1 := Lib.hid (fun b (w : World) h => rnum_any E b L 0 w hLb h)
  have N2 := Lib.hid (fun b (w : World) h => rnum_any E b l1 c1 w (by omega) h)
  rw [e1, e2] at N1
  rw [e3, e4] at N2
  have HR0 := Lib.hid hr0
  have hml := rnN_le l1 c1
  generalize rnN l1 c1 = many at *
  generalize hsz : rnN L 0 = size at *
  have HSZ := Lib.hid hsz
  have HEZ := Lib.hid (ev_zero E)
  clear e1 e2 e3 e4 hr0 hB hT hF hsz
  have R0 : RAt E (w.alloc (.cells #[.string (bs L), .nilIface] 114)) w.heap.size L 0 := by unfold RAt; rw [ev_zero]; exact heap_alloc_new _ _
  have b0 := below_alloc' w (.cells #[.string (bs L), .nilIface] 114)
  go_enter Tryz.func63, Tryz.ntmps63
  go_wp2_with fail
  refine (N1.out _ _ R0 (HT.out.below b0) (HB.out.below b0)).mono ?_
  rintro e w1 ⟨rfl, R1, g1⟩
  have b1 := b0.grown g1 b0.size (fun k hk => by cases hk; exact Nat.le_refl _)
  have hb : w.heap.size ≤ w.heap.size := Nat.le_refl _
  clear R0 b0 g1
  go_wp2_with fail
  refine (N2.out _ _ R1 (HT.out.below b1) (HB.out.below b1)).mono ?_
  rintro e w2 ⟨rfl, R2, g2⟩
  have b2 := b1.grown g2 b1.size (fun k hk => by cases hk; exact Nat.le_refl _)
  clear R1 b1 g2
  go_wp2_with fail
  go_loopw [9, 8, 10, 11, 12] (fun i o _ _ _ wr => ∃ (k : Nat) (out : List Blk) (l : List UInt8) (c : Nat), i = .int .i64 k ∧ k ≤ many ∧ out.length = k ∧ out.length ≤ L.length + 1 ∧ (c = 0 → out.length + l.length ≤ L.length) ∧ l.length ≤ L.length ∧
      rd0 L = rdLoop (many - k) l c out ∧ RAt E wr w.heap.size l c ∧ wr.ownsRow (w.heap.size + 1) 162 3 o k (bcells out) ∧ Below w.heap.size w wr) (fun i _ _ _ _ _ => many - (intOf i).toNat)
  case atStart => exact ⟨0, [], l2, c2, rfl, by omega, rfl, by simp, fun _ => by simp; omega, by omega, HR0.out, R2, by rw [bcells_nil]; exact World.ownsRow_nil _ _ _ _, b2⟩
  case round =>
    clear R2 b2
    obtain ⟨k, out, l, c, rfl, hk, hok, ho1, ho2, hll, hrd, R, hown, bel⟩ := hrel
    have HRD := Lib.hid hrd
    have HOK := Lib.hid hok
    have HO2 := Lib.hid ho2
    obtain ⟨r0, r1⟩ := R.cs
    clear hrd hok ho2
    by_cases hgo : k < many ∧ c = 0
    · obtain ⟨hlt, rfl⟩ := hgo
      have hltI : (k : Int) < many := by omega
      rw [ev_zero] at r1
      obtain ⟨m1, f1⟩ : ∃ x, rnR l 0 = x := ⟨_, rfl⟩
      obtain ⟨d1, f2⟩ : ∃ x, rnC l 0 = x := ⟨_, rfl⟩
      obtain ⟨m2, f3⟩ : ∃ x, rnR m1 d1 = x := ⟨_, rfl⟩
      obtain ⟨d2, f4⟩ : ∃ x, rnC m1 d1 = x := ⟨_, rfl⟩
      obtain ⟨m3, f5⟩ : ∃ x, rnR m2 d2 = x := ⟨_, rfl⟩
      obtain ⟨d3, f6⟩ : ∃ x, rnC m2 d2 = x := ⟨_, rfl⟩
      have hblk := rdBlk_is l m1 m2 d1 d2 f1 f2 f3 f4
      rw [f5, f6] at hblk
      have hstep := HRD.out.trans (rdLoop_step (by omega) l out)
      have hshort := rdBlk_len l
      have hlm1 := rnR_len l 0
      have hlm2 := rnR_len m1 d1
      have hlm3 := rnR_len m2 d2
      rw [f1] at hlm1
      rw [f3] at hlm2
      rw [f5] at hlm3
      have P1 := Lib.hid (fun b (w : World) h => rnum_any E b l 0 w (by omega) h)
      have P2 := Lib.hid (fun b (w : World) h => rnum_any E b m1 d1 w (by omega) h)
      have P3 := Lib.hid (fun b (w : World) h => rnum_any E b m2 d2 w (by omega) h)
      rw [f1, f2] at P1
      rw [f3, f4] at P2
      rw [f5, f6] at P3
      rw [hblk] at hstep hshort
      simp only [] at hstep hshort
      generalize rnN l 0 = x1 at *
      generalize rnN m1 d1 = x2 at *
      generalize rnN m2 d2 = x3 at *
      have HSTEP := Lib.hid hstep
      have HSH := Lib.hid hshort
      have KK := Lib.hid (show k + 1 ≤ many ∧ many - (k + 1) = many - k - 1 by omega)
      have HO3 := Lib.hid (HO2.out rfl)
      clear f1 f2 f3 f4 f5 f6 hblk hstep hshort
      have hsz0 := R.lt
      go_wp2_with fail
      refine (P1.out _ _ R (HT.out.below bel) (HB.out.below bel)).mono ?_
      rintro e v1 ⟨rfl, R1, g1⟩
      have bel1 := bel.grown g1 bel.size (fun k hk => by cases hk; exact Nat.le_refl _)
      have hown1 := owns_other' hown (Nat.lt_succ_self _) g1
      clear R bel g1 hown r0 r1
      go_wp2_with fail
      refine (P2.out _ _ R1 (HT.out.below bel1) (HB.out.below bel1)).mono ?_
      rintro e v2 ⟨rfl, R2, g2⟩
      have bel2 := bel1.grown g2 bel1.size (fun k hk => by cases hk; exact Nat.le_refl _)
      have hown2 := owns_other' hown1 (Nat.lt_succ_self _) g2
      clear R1 bel1 g2 hown1
      go_wp2_with fail
      refine (P3.out _ _ R2 (HT.out.below bel2) (HB.out.below bel2)).mono ?_
      rintro e v3 ⟨rfl, R3, g3⟩
      have bel3 := bel2.grown g3 bel2.size (fun k hk => by cases hk; exact Nat.le_refl _)
      have hown3 := owns_other' hown2 (Nat.lt_succ_self _) g3
      clear R2 bel2 g3 hown2
      obtain ⟨r0, r1⟩ := R3.cs
      have fz := R3.fz 1
      have t1 : v3.cell? ⟨0, 0, none⟩ = some (errv (E 1)) := HT.out.below bel3
      unfold errv at t1
      have hsz3 := R3.lt
      by_cases hd : d3 = 0
      · subst hd
        rw [ev_zero] at r1
        by_cases hx : 4294967295 < x3
        · have hxI : (4294967295 : Int) < x3 := by omega
          have R4 := Lib.hid (R3.set1 1 _ (ev_is E (c := 1) (by decide)).symm)
          unfold errv at R4
          have hs := HSTEP.out
          rw [if_pos ⟨rfl, hx⟩] at hs
          have HS := Lib.hid hs
          clear hs HSTEP HSH
          have OWN := Lib.hid (owns_other' hown3 (Nat.lt_succ_self _) (grownBy_set v3 w.heap.size 1 (.iface 237 (.pointer (some (E 1))))))
          have RR := R4
          have HSZ3 := Lib.hid hsz3
          have BELX := bel3.setCell (p := ⟨w.heap.size, 1, none⟩) (Nat.le_refl _) (.iface 237 (.pointer (some (E 1))))
          have HM1 : Hid (k + 1 ≤ maxLen) := by show _ ≤ _; unfold maxLen; omega
          have HM2 : Hid ((k + 1) * 24 ≤ 140737488355328) := by show _ ≤ _; have := HOK.out; omega
          have HM3 : Hid (w.heap.size + 1 ≤ ((v3.setCell ⟨w.heap.size, 1, none⟩ (.iface 237 (.pointer (some (E 1))))).alloc (.cells #[.int .i64 x1, .int .i64 x2, .int .u32 ((x3 : Int) % 4294967296)] 162)).heap.size) := by show _ ≤ _; have := BELX.size; have := HSZ3.out; simp; omega
          have NEWH : Hid (((v3.setCell ⟨w.heap.size, 1, none⟩ (.iface 237 (.pointer (some (E 1))))).alloc (.cells #[.int .i64 x1, .int .i64 x2, .int .u32 ((x3 : Int) % 4294967296)] 162)).heap[v3.heap.size]? = some (.cells #[.int .i64 x1, .int .i64 x2, .int .u32 ((x3 : Int) % 4294967296)] 162 (0, 0))) := by
            have h := heap_alloc_new (v3.setCell ⟨w.heap.size, 1, none⟩ (.iface 237 (.pointer (some (E 1))))) (.cells #[.int .i64 x1, .int .i64 x2, .int .u32 ((x3 : Int) % 4294967296)] 162)
            have e : (v3.setCell ⟨w.heap.size, 1, none⟩ (.iface 237 (.pointer (some (E 1))))).heap.size = v3.heap.size := by simp
            rw [e] at h
            exact h
          go_wp2_with (at_builtin; refine wpList_append_own _ rfl _ _ 119 rfl (w.heap.size + 1) 162 i0 _ 3 24 Tryz.underlying119 hi hz0 hz1 hz2 rfl (by decide) _ _ _ rfl (OWN.out.alloc _) ⟨v3.heap.size, 0, none⟩ 1 1 [.int .i64 x1, .int .i64 x2, .int .u32 ((x3 : Int) % 4294967296)] rfl rfl (three_news NEWH.out) (fun u hu => by simp at hu; rcases hu with rfl | rfl | rfl <;> rfl) HM1.out HM2.out HM3.out ?_; intro v' v5 hown' hgrow _)
          have bel5 := (BELX.alloc BELX.size (.cells #[.int .i64 x1, .int .i64 x2, .int .u32 ((x3 : Int) % 4294967296)] 162)).grown hgrow (by have := BELX.size; simp; omega) (fun j hj => by have := (OWN.out.lt j hj).1; omega)
          have hne : some w.heap.size ≠ Value.ownBlock u8 := fun e => by have := (OWN.out.lt _ e.symm).1; omega
          have R5 := (RAt.below RR.out (below_alloc' _ (.cells #[.int .i64 x1, .int .i64 x2, .int .u32 ((x3 : Int) % 4294967296)] 162))).grown hgrow hne
          have hcells : bcells (out ++ [⟨x1, x2, x3 % 4294967296⟩]) = bcells out ++ [.int .i64 x1, .int .i64 x2, .int .u32 ((x3 : Int) % 4294967296)] := by
            rw [bcells_append, bcells_one]; simp only [Blk.cells]; simp
          go_roundw
          case rel => exact ⟨k + 1, out ++ [⟨x1, x2, x3 % 4294967296⟩], m3, 1, by go_num, KK.out.1, by simp [HOK.out], by have := HO3.out; simp; omega, (fun h => absurd h (by decide)), by omega, by rw [KK.out.2]; exact HS.out, R5, by rw [hcells]; exact hown', bel5⟩
          case measure => simp [intOf]; omega
        · have hxI : ¬ (4294967295 : Int) < x3 := by omega
          have hs := HSTEP.out
          rw [if_neg (fun h => hx h.2)] at hs
          have hs2 := HSH.out
          rw [if_neg (fun h => hx h.2)] at hs2
          have HS := Lib.hid hs
          have HS2 := Lib.hid (hs2 rfl)
          clear hs hs2 HSTEP HSH
          have OWN := Lib.hid hown3
          have RR := Lib.hid R3
          have HSZ3 := Lib.hid hsz3
          have hx3 : x3 % 4294967296 = x3 := by omega
          have HX3 := Lib.hid hx3
          clear hx3
          have HM1 : Hid (k + 1 ≤ maxLen) := by show _ ≤ _; unfold maxLen; omega
          have HM2 : Hid ((k + 1) * 24 ≤ 140737488355328) := by show _ ≤ _; have := HOK.out; omega
          have HM3 : Hid (w.heap.size + 1 ≤ (v3.alloc (.cells #[.int .i64 x1, .int .i64 x2, .int .u32 (x3 : Int)] 162)).heap.size) := by show _ ≤ _; have := bel3.size; have := HSZ3.out; simp; omega
          go_wp2_with (at_builtin; refine wpList_append_own _ rfl _ _ 119 rfl (w.heap.size + 1) 162 i0 _ 3 24 Tryz.underlying119 hi hz0 hz1 hz2 rfl (by decide) _ _ _ rfl (OWN.out.alloc _) ⟨v3.heap.size, 0, none⟩ 1 1 [.int .i64 x1, .int .i64 x2, .int .u32 (x3 : Int)] rfl rfl (three_news (heap_alloc_new _ _)) (fun u hu => by simp at hu; rcases hu with rfl | rfl | rfl <;> rfl) HM1.out HM2.out HM3.out ?_; intro v' v5 hown' hgrow _)
          have bel5 := (bel3.alloc bel3.size (.cells #[.int .i64 x1, .int .i64 x2, .int .u32 (x3 : Int)] 162)).grown hgrow (by have := bel3.size; simp; omega) (fun j hj => by have := (OWN.out.lt j hj).1; omega)
          have hne : some w.heap.size ≠ Value.ownBlock u8 := fun e => by have := (OWN.out.lt _ e.symm).1; omega
          have R5 := (RAt.below RR.out (below_alloc' _ (.cells #[.int .i64 x1, .int .i64 x2, .int .u32 (x3 : Int)] 162))).grown hgrow hne
          have hcells : bcells (out ++ [⟨x1, x2, x3 % 4294967296⟩]) = bcells out ++ [.int .i64 x1, .int .i64 x2, .int .u32 (x3 : Int)] := by
            rw [bcells_append, bcells_one]; simp only [Blk.cells]; rw [HX3.out]
          go_roundw
          case rel => exact ⟨k + 1, out ++ [⟨x1, x2, x3 % 4294967296⟩], m3, 0, by go_num, KK.out.1, by simp [HOK.out], by have := HO3.out; simp; omega, (fun _ => by have := HS2.out; have := HO3.out; simp; omega), by omega, by rw [KK.out.2]; exact HS.out, R5, by rw [hcells]; exact hown', bel5⟩
          case measure => simp [intOf]; omega
      · have hs := HSTEP.out
        rw [if_neg (fun h => hd h.1)] at hs
        have HS := Lib.hid hs
        have HD := Lib.hid hd
        have hev := ev_is E hd
        rw [hev] at r1
        unfold errv at r1
        clear hs HSTEP HSH hd hev
        have OWN := Lib.hid hown3
        have RR := Lib.hid R3
        have HSZ3 := Lib.hid hsz3
        have HM1 : Hid (k + 1 ≤ maxLen) := by show _ ≤ _; unfold maxLen; omega
        have HM2 : Hid ((k + 1) * 24 ≤ 140737488355328) := by show _ ≤ _; have := HOK.out; omega
        have HM3 : Hid (w.heap.size + 1 ≤ (v3.alloc (.cells #[.int .i64 x1, .int .i64 x2, .int .u32 ((x3 : Int) % 4294967296)] 162)).heap.size) := by show _ ≤ _; have := bel3.size; have := HSZ3.out; simp; omega
        go_wp2_with (at_builtin; refine wpList_append_own _ rfl _ _ 119 rfl (w.heap.size + 1) 162 i0 _ 3 24 Tryz.underlying119 hi hz0 hz1 hz2 rfl (by decide) _ _ _ rfl (OWN.out.alloc _) ⟨v3.heap.size, 0, none⟩ 1 1 [.int .i64 x1, .int .i64 x2, .int .u32 ((x3 : Int) % 4294967296)] rfl rfl (three_news (heap_alloc_new _ _)) (fun u hu => by simp at hu; rcases hu with rfl | rfl | rfl <;> rfl) HM1.out HM2.out HM3.out ?_; intro v' v5 hown' hgrow _)
        have bel5 := (bel3.alloc bel3.size (.cells #[.int .i64 x1, .int .i64 x2, .int .u32 ((x3 : Int) % 4294967296)] 162)).grown hgrow (by have := bel3.size; simp; omega) (fun j hj => by have := (OWN.out.lt j hj).1; omega)
        have hne : some w.heap.size ≠ Value.ownBlock u8 := fun e => by have := (OWN.out.lt _ e.symm).1; omega
        have R5 := (RAt.below RR.out (below_alloc' _ (.cells #[.int .i64 x1, .int .i64 x2, .int .u32 ((x3 : Int) % 4294967296)] 162))).grown hgrow hne
        have hcells : bcells (out ++ [⟨x1, x2, x3 % 4294967296⟩]) = bcells out ++ [.int .i64 x1, .int .i64 x2, .int .u32 ((x3 : Int) % 4294967296)] := by
          rw [bcells_append, bcells_one]; simp only [Blk.cells]; simp
        go_roundw
        case rel => exact ⟨k + 1, out ++ [⟨x1, x2, x3 % 4294967296⟩], m3, d3, by go_num, KK.out.1, by simp [HOK.out], by have := HO3.out; simp; omega, (fun h => absurd h HD.out), by omega, by rw [KK.out.2]; exact HS.out, R5, by rw [hcells]; exact hown', bel5⟩
        case measure => simp [intOf]; omega
    · have hEX : rd0 L = (out, l, c) := by
        rw [HRD.out]
        by_cases hc : c = 0
        · have : many - k = 0 := by omega
          rw [this, rdLoop_end]
        · exact rdLoop_err _ _ hc _
      have HEX := Lib.hid hEX
      clear hEX
      have WAYS : ¬ (k : Int) < many ∨ (k : Int) < many ∧ c ≠ 0 := by omega
      have EN := Lib.hid (rend_any E w.heap.size l c wr R (HT.out.below bel))
      clear hgo
      obtain ⟨A, cap, rfl⟩ := owns_slice hown
      have WAYS2 : ¬ (k : Int) < many ∨ (k : Int) < many ∧ ∃ x, ev E c = .iface 237 x := by
        rcases WAYS with h | ⟨h, hc⟩
        · exact .inl h
        · exact .inr ⟨h, _, ev_pos E hc⟩
      clear WAYS
      rcases WAYS2 with h | ⟨h, x, hx⟩
      all_goals
        try rw [hx] at r1
        try clear hx
        go_wp2_with fail
        refine EN.out.mono ?_
        rintro e v4 ⟨rfl, R4, g4⟩
        have bel4 := bel.grown g4 bel.size (fun k hk => by cases hk; exact Nat.le_refl _)
        have hown4 := owns_other' hown (Nat.lt_succ_self _) g4
        clear bel g4 hown R R4 r0 r1
        by_cases he : rEnd l c = 0
        · have CK := check_any E A k cap out size v4 (SliceIs.ownedK hown4) (HB.out.below bel4) (HFU.out.below bel4)
          have HCK := Lib.hid CK
          clear CK
          by_cases hcode : (chk out size).1 = 0
          · have hr := readSg_ok HEX.out he (by rw [HSZ.out]; exact hcode)
            rw [HSZ.out] at hr
            have HR := Lib.hid hr
            have HC := Lib.hid hcode
            rw [he, ev_zero]
            clear hr he hcode
            go_wp2_with fail
            refine HCK.out.mono ?_
            rintro e v5 ⟨v, rfl, fe, b5⟩
            rw [HC.out] at fe
            rw [fe.zero]
            clear fe
            go_wp2_with fail
            go_ret3
            refine ⟨_, by rw [HR.out, ev_zero]; rfl, ?_, below_trans' bel4 b5⟩
            rw [HR.out]
            simp only []
            rw [HOK.out]
            exact owns_mono (owns_below hown4 b5) (by omega)
          · have hr := readSg_bad HEX.out he (by rw [HSZ.out]; exact hcode)
            rw [HSZ.out] at hr
            have HR := Lib.hid hr
            have HC := Lib.hid hcode
            rw [he, ev_zero]
            clear hr he hcode
            go_wp2_with fail
            refine HCK.out.mono ?_
            rintro e v5 ⟨v, rfl, fe, b5⟩
            have BA := Lib.hid (bare_any E v _ _ v5 fe)
            obtain ⟨t, p, hv⟩ := fe.some HC.out
            rw [hv] at BA ⊢
            clear fe hv
            go_wp2_with fail
            refine BA.out.mono ?_
            rintro e v6 ⟨rfl, rfl⟩
            go_wp2_with fail
            go_ret3
            refine ⟨.slice none 0 0, by rw [HR.out]; rfl, ?_, below_trans' bel4 b5⟩
            rw [HR.out]
            simp only []
            rw [bcells_nil]
            exact World.ownsRow_nil _ _ _ _
        · have HR := Lib.hid (readSg_end HEX.out he)
          have hev := ev_is E he
          rw [hev]
          have HEV := Lib.hid hev
          unfold errv at HEV ⊢
          clear hev he
          go_wp2_with fail
          go_ret3
          refine ⟨.slice none 0 0, by rw [HR.out, HEV.out]; rfl, ?_, bel4⟩
          rw [HR.out]
          simp only []
          rw [bcells_nil]
          exact World.ownsRow_nil _ _ _ _

/-! ### SameBlocks -/
def sameB (a b : List Blk) : Bool := decide (a = b)
theorem sameB_yes {a b : List Blk} (h : a = b) : sameB a b = true := by simp [sameB, h]
theorem sameB_no {a b : List Blk} (h : a ≠ b) : sameB a b = false := by simp [sameB, h]
attribute [irreducible] sameB
theorem take_ext {α : Type} {a b : List α} (k : Nat) (h : a.take k = b.take k) (h1 : k < a.length) (h2 : k < b.length) (he : a[k] = b[k]) : a.take (k + 1) = b.take (k + 1) := by
  rw [List.take_succ_eq_append_getElem h1, List.take_succ_eq_append_getElem h2, h, he]

end Go.Proofs.YtdpoalbbcmkceaaGreatDoor
/- Contracts of ops: delta.check, Check, Cost; the statements' longOps, ownOps. -/
namespace Go.Proofs.YtdpoalbbcmkceaaGreatDoor
open Go.RowKit

theorem within_yes (n l : Int) (w : World) (h : l ≤ n ∧ n ≤ 4000) : Calls Tryz.prog 134 #[.int .i64 n, .int .i64 l] w fun e w' => e = .returned (.bool true) ∧ w = w' := by
  obtain ⟨h1, h2⟩ := h
  go_enter Tryz.func134, Tryz.ntmps134
  go_wp2_with fail
  go_ret
  exact ⟨by first | rfl | exact ret_bool (by simp [*]), rfl⟩
theorem within_no (n l : Int) (w : World) (h : ¬ (l ≤ n ∧ n ≤ 4000)) : Calls Tryz.prog 134 #[.int .i64 n, .int .i64 l] w fun e w' => e = .returned (.bool false) ∧ w = w' := by
  have h' : n < l ∨ l ≤ n ∧ 4000 < n := by omega
  clear h
  rcases h' with h1 | ⟨h1, h2⟩
  all_goals
    go_enter Tryz.func134, Tryz.ntmps134
    go_wp2_with fail
    go_ret
    exact ⟨by first | rfl | exact ret_bool (by simp [*]), rfl⟩

def POp.val (o : POp) : Value := .agg #[.string (bs o.kind), .int .i64 o.a, .int .i64 o.n, .string (bs o.data)]
theorem bs_kCopy : bs kCopy = ⟨#[99, 111, 112, 121]⟩ := by rw [kCopy_is]; unfold bs; rfl
theorem bs_kData : bs kData = ⟨#[100, 97, 116, 97]⟩ := by rw [kData_is]; unfold bs; rfl
theorem bsapp (a b : List UInt8) : bs a ++ bs b = bs (a ++ b) := eq_bs (by simp)
theorem tl_eq (a b : List UInt8) (h : a = b) : ((bs a).toList == b) = true := by simp [ByteArray.toList_eq, h]
theorem tl_ne (a b : List UInt8) (h : a ≠ b) : ((bs a).toList == b) = false := by simp [ByteArray.toList_eq, h]
theorem tl_em (a : List UInt8) (h : a = []) : (bs a).toList.isEmpty = true := by simp [ByteArray.toList_eq, h]
theorem tl_nem (a : List UInt8) (h : a ≠ []) : (bs a).toList.isEmpty = false := by simp [ByteArray.toList_eq, h]

set_option maxRecDepth 100000 in
set_option maxHeartbeats 3200000 in
theorem opcheck_any (E : Nat → Addr) (o : POp) (w : World) (h2 : Has E w 2) (h3 : Has E w 3) (h4 : Has E w 4) :
    Calls Tryz.prog 121 #[o.val] w fun e w' => e = .returned (ev E (opC o)) ∧ Below w.heap.size w w' := by
  have z2 : 1 < w.heap.size := World.block_lt_of_cell? w _ h2
  have z3 : 2 < w.heap.size := World.block_lt_of_cell? w _ h3
  have z4 : 3 < w.heap.size := World.block_lt_of_cell? w _ h4
  have c2 : w.cell? ⟨1, 0, none⟩ = some (errv (E 2)) := h2
  have c3 : w.cell? ⟨2, 0, none⟩ = some (errv (E 3)) := h3
  have c4 : w.cell? ⟨3, 0, none⟩ = some (errv (E 4)) := h4
  have HA := Lib.hid (fun o => below_alloc' w o)
  have V0 := Lib.hid (ev_zero E)
  have V2 := Lib.hid (ev_is E (c := 2) (by decide))
  have V3 := Lib.hid (ev_is E (c := 3) (by decide))
  have V4 := Lib.hid (ev_is E (c := 4) (by decide))
  clear h2 h3 h4
  have H1 := Lib.hid (fun h1 h2 => opC_shape (o := o) h1 h2)
  have H2 := Lib.hid (fun h1 h2 h3 => opC_bound (o := o) h1 h2 h3)
  have H3 := Lib.hid (fun h1 h2 h3 => opC_fine (o := o) h1 h2 h3)
  have H4 := Lib.hid (fun h0 h1 h2 => opD_shape (o := o) h0 h1 h2)
  have H5 := Lib.hid (fun h0 h1 h2 h3 => opD_bound (o := o) h0 h1 h2 h3)
  have H6 := Lib.hid (fun h0 h1 h2 h3 => opD_fine (o := o) h0 h1 h2 h3)
  have H7 := Lib.hid (fun h0 h1 => opK (o := o) h0 h1)
  generalize opC o = c at *
  obtain ⟨K, a, n, D⟩ := o
  unfold POp.val
  simp only [] at H1 H2 H3 H4 H5 H6 H7 ⊢
  by_cases hk : K = kCopy
  · have k1 := tl_eq K [99, 111, 112, 121] (by rw [hk, kCopy_is])
    by_cases hd : D = []
    · have d1 := tl_eq D [] hd
      have d2 := tl_em D hd
      by_cases ha : 0 ≤ a ∧ a ≤ 4000
      · have WA := Lib.hid (fun w => within_yes a 0 w ha)
        by_cases hn : 1 ≤ n ∧ n ≤ 4000
        · have WN := Lib.hid (fun w => within_yes n 1 w hn)
          have HC := Lib.hid (H3.out hk hd ⟨ha, hn⟩)
          clear H1 H2 H3 H4 H5 H6 H7 hk hd ha hn
          go_enter Tryz.func121, Tryz.ntmps121
          go_wp2_with fail
          refine (WA.out _).mono ?_
          rintro e w1 ⟨rfl, rfl⟩
          go_wp2_with fail
          refine (WN.out _).mono ?_
          rintro e w1 ⟨rfl, rfl⟩
          go_wp2_with fail
          go_ret
          exact ⟨by rw [HC.out, V0.out]; rfl, HA.out _⟩
        · have WN := Lib.hid (fun w => within_no n 1 w hn)
          have HC := Lib.hid (H2.out hk hd (fun h => hn h.2))
          clear H1 H2 H3 H4 H5 H6 H7 hk hd ha hn
          go_enter Tryz.func121, Tryz.ntmps121
          go_wp2_with fail
          refine (WA.out _).mono ?_
          rintro e w1 ⟨rfl, rfl⟩
          go_wp2_with fail
          refine (WN.out _).mono ?_
          rintro e w1 ⟨rfl, rfl⟩
          go_wp2_with fail
          go_ret
          exact ⟨by rw [HC.out, V2.out]; rfl, HA.out _⟩
      · have WA := Lib.hid (fun w => within_no a 0 w ha)
        have HC := Lib.hid (H2.out hk hd (fun h => ha h.1))
        clear H1 H2 H3 H4 H5 H6 H7 hk hd ha
        go_enter Tryz.func121, Tryz.ntmps121
        go_wp2_with fail
        refine (WA.out _).mono ?_
        rintro e w1 ⟨rfl, rfl⟩
        go_wp2_with fail
        go_ret
        exact ⟨by rw [HC.out, V2.out]; rfl, HA.out _⟩
    · have d1 := tl_ne D [] hd
      have d2 := tl_nem D hd
      have HC := Lib.hid (H1.out hk hd)
      clear H1 H2 H3 H4 H5 H6 H7 hk hd
      go_enter Tryz.func121, Tryz.ntmps121
      go_wp2_with fail
      go_ret
      exact ⟨by rw [HC.out, V3.out]; rfl, HA.out _⟩
  · have k1 := tl_ne K [99, 111, 112, 121] (by rw [← kCopy_is]; exact hk)
    by_cases hk2 : K = kData
    · have k2 := tl_eq K [100, 97, 116, 97] (by rw [hk2, kData_is])
      by_cases ha : a = 0
      · by_cases hn : n = 0
        · by_cases hl : 1 ≤ D.length ∧ D.length ≤ 4000
          · have WN := Lib.hid (fun w => within_yes D.length 1 w (by omega))
            have HC := Lib.hid (H6.out hk hk2 ⟨ha, hn⟩ hl)
            clear H1 H2 H3 H4 H5 H6 H7 hk hk2 hl
            subst ha hn
            go_enter Tryz.func121, Tryz.ntmps121
            go_wp2_with fail
            refine (WN.out _).mono ?_
            rintro e w1 ⟨rfl, rfl⟩
            go_wp2_with fail
            go_ret
            exact ⟨by rw [HC.out, V0.out]; rfl, HA.out _⟩
          · have WN := Lib.hid (fun w => within_no D.length 1 w (by omega))
            have HC := Lib.hid (H5.out hk hk2 ⟨ha, hn⟩ hl)
            clear H1 H2 H3 H4 H5 H6 H7 hk hk2 hl
            subst ha hn
            go_enter Tryz.func121, Tryz.ntmps121
            go_wp2_with fail
            refine (WN.out _).mono ?_
            rintro e w1 ⟨rfl, rfl⟩
            go_wp2_with fail
            go_ret
            exact ⟨by rw [HC.out, V2.out]; rfl, HA.out _⟩
        · have n1 : (n != 0) = true := by simp [hn]
          have HC := Lib.hid (H4.out hk hk2 (.inr hn))
          clear H1 H2 H3 H4 H5 H6 H7 hk hk2 hn
          subst ha
          go_enter Tryz.func121, Tryz.ntmps121
          go_wp2_with fail
          go_ret
          exact ⟨by rw [HC.out, V3.out]; rfl, HA.out _⟩
      · have a1 : (a != 0) = true := by simp [ha]
        have HC := Lib.hid (H4.out hk hk2 (.inl ha))
        clear H1 H2 H3 H4 H5 H6 H7 hk hk2 ha
        go_enter Tryz.func121, Tryz.ntmps121
        go_wp2_with fail
        go_ret
        exact ⟨by rw [HC.out, V3.out]; rfl, HA.out _⟩
    · have k2 := tl_ne K [100, 97, 116, 97] (by rw [← kData_is]; exact hk2)
      have HC := Lib.hid (H7.out hk hk2)
      clear H1 H2 H3 H4 H5 H6 H7 hk hk2
      go_enter Tryz.func121, Tryz.ntmps121
      go_wp2_with fail
      go_ret
      exact ⟨by rw [HC.out, V4.out]; rfl, HA.out _⟩
end Go.Proofs.YtdpoalbbcmkceaaGreatDoor
/- Plain laws: a file's blocks are well; a signature is read as it was written; each block is found. -/
namespace Go.Proofs.YtdpoalbbcmkceaaGreatDoor
open Go.RowKit

theorem blks_get (size : Nat) (L : List UInt8) (k : Nat) (h : k < (blks size L).length) : (blks size L)[k] = blk ((L.drop (k * size)).take size) := by
  have hk : k < cntOf size L.length := by rw [← blks_len]; exact h
  have h2 : (blks size L)[k]? = some (blk ((L.drop (k * size)).take size)) := by unfold blks blksN; rw [List.getElem?_map, List.getElem?_range hk]; rfl
  exact (List.getElem_eq_iff h).2 h2
theorem cnt_lt {size len k : Nat} (hs : 0 < size) (h : k < cntOf size len) : k * size < len := by
  unfold cntOf at h
  have h1 := (Nat.le_div_iff_mul_le hs).1 (show k + 1 ≤ (len + size - 1) / size by omega)
  rw [Nat.add_mul] at h1
  omega
theorem cnt_last {size len k : Nat} (hs : 0 < size) (h : k + 1 = cntOf size len) : len ≤ (k + 1) * size := by
  unfold cntOf at h
  have h1 := Nat.lt_mul_div_succ (len + size - 1) hs
  rw [← h, Nat.mul_comm] at h1
  rw [Nat.add_mul] at h1 ⊢
  rw [Nat.add_mul] at h1
  omega
/-- where a block begins -/
def offN (size len k : Nat) : Nat := if k * size ≤ len then k * size else len
theorem offN_lt {size len k : Nat} (hs : 0 < size) (h : k < cntOf size len) : offN size len k = k * size := by
  have := cnt_lt hs h; unfold offN; rw [if_pos (by omega)]
theorem offN_end {size len : Nat} (hs : 0 < size) : offN size len (cntOf size len) = len := by
  unfold offN
  by_cases h : cntOf size len = 0
  · rw [h, if_pos (by omega)]
    unfold cntOf at h
    have := Nat.lt_mul_div_succ (len + size - 1) hs
    rw [h] at this; omega
  · have h1 := cnt_last (size := size) (len := len) hs (k := cntOf size len - 1) (by omega)
    rw [show cntOf size len - 1 + 1 = cntOf size len by omega] at h1
    split <;> omega
theorem blkN (size : Nat) (L : List UInt8) (k : Nat) (hs : 0 < size) (h : k < cntOf size L.length) :
    (blk ((L.drop (k * size)).take size)).N = ((offN size L.length (k + 1) - offN size L.length k : Nat) : Int) ∧ 1 ≤ offN size L.length (k + 1) - offN size L.length k ∧ offN size L.length (k + 1) - offN size L.length k ≤ size ∧
      offN size L.length k ≤ offN size L.length (k + 1) ∧ offN size L.length (k + 1) ≤ L.length ∧ (k + 1 ≠ cntOf size L.length → offN size L.length (k + 1) - offN size L.length k = size) := by
  have h1 := cnt_lt hs h
  have h2 := offN_lt (len := L.length) hs h
  have h3 : (k + 1) * size = k * size + size := by rw [Nat.add_mul]; omega
  have h4 : k + 1 ≠ cntOf size L.length → (k + 1) * size ≤ L.length := fun hne => by
    have := cnt_lt (size := size) (len := L.length) (k := k + 1) hs (by omega); omega
  rw [h2]
  rw [blk_is]
  simp only [List.length_take, List.length_drop]
  unfold offN
  rw [h3] at h4 ⊢
  split
  · refine ⟨by omega, by omega, by omega, by omega, by omega, fun _ => by omega⟩
  · refine ⟨by omega, by omega, by omega, by omega, by omega, fun h => by have := h4 h; omega⟩

theorem blks_chk (size : Nat) (L : List UInt8) (h1 : 1 ≤ size) (h2 : size ≤ 64) (hL : L.length ≤ 4000) : chk (blks size L) size = (0, -1) := by
  rw [chk_yes (by omega)]
  have H : ∀ j k, k + j = (blks size L).length → chkA size ((blks size L).drop k) k (offN size L.length k) = (0, -1) := by
    intro j
    induction j with
    | zero => intro k hk; exact chkA_end (by omega)
    | succ j ih =>
      intro k hk
      have hlt : k < (blks size L).length := by omega
      have hc : k < cntOf size L.length := by rw [← blks_len]; exact hlt
      obtain ⟨q1, q2, q3, q4, q5, q6⟩ := blkN size L k h1 hc
      have hb := blks_get size L k hlt
      have hw := ws_bd ((L.drop (k * size)).take size)
      have hN : ((blks size L)[k]).N = ((offN size L.length (k + 1) - offN size L.length k : Nat) : Int) := by rw [hb]; exact q1
      have hW : ((blks size L)[k]).W = ws ((L.drop (k * size)).take size) := by rw [hb, blk_is]
      rw [chkA_next hlt]
      · have := ih (k + 1) (by omega)
        rw [hN]
        have e : (offN size L.length k : Int) + ((offN size L.length (k + 1) - offN size L.length k : Nat) : Int) = (offN size L.length (k + 1) : Int) := by omega
        rw [e]; exact this
      · intro hbad
        unfold badB at hbad
        rw [hN, hW] at hbad
        rw [blks_len] at hbad
        rcases hbad with h | h | ⟨h, h'⟩ | h | h
        · omega
        · omega
        · have := q6 (by simp at h'; omega); omega
        · omega
        · omega
      · rw [hN]; omega
  have := H (blks size L).length 0 (by omega)
  simpa [offN] using this
theorem blks_S (size : Nat) (L : List UInt8) : ∀ b ∈ blks size L, b.S < 4294967296 := by
  intro b hb
  obtain ⟨k, hk, rfl⟩ := List.getElem_of_mem hb
  rw [blks_get, blk_is]
  exact csum_lt _

theorem rdBlk_text (b : Blk) (more : List UInt8) (h : 1 ≤ b.N ∧ b.N ≤ 64 ∧ 0 ≤ b.W ∧ b.W < 4294967296) (hS : b.S < 4294967296) : rdBlk (num b.N.toNat ++ num b.W.toNat ++ num b.S ++ more) = (b, more, 0) := by
  have e : num b.N.toNat ++ num b.W.toNat ++ num b.S ++ more = num b.N.toNat ++ (num b.W.toNat ++ (num b.S ++ more)) := by simp
  rw [e]
  obtain ⟨p1, p2, p3⟩ := rd_num b.N.toNat (num b.W.toNat ++ (num b.S ++ more)) (by omega)
  obtain ⟨q1, q2, q3⟩ := rd_num b.W.toNat (num b.S ++ more) (by omega)
  obtain ⟨r1, r2, r3⟩ := rd_num b.S more (by omega)
  rw [rdBlk_is _ _ _ _ _ p2 p3 q2 q3, p1, q1, r1, r2, r3]
  rw [if_neg (by omega)]
  have e1 : ((b.N.toNat : Nat) : Int) = b.N := by omega
  have e2 : ((b.W.toNat : Nat) : Int) = b.W := by omega
  have e3 : b.S % 4294967296 = b.S := by omega
  rw [e1, e2, e3]
theorem rdLoop_text : ∀ (l : List Blk) (out : List Blk) (more : List UInt8), (∀ b ∈ l, 1 ≤ b.N ∧ b.N ≤ 64 ∧ 0 ≤ b.W ∧ b.W < 4294967296) → (∀ b ∈ l, b.S < 4294967296) → rdLoop l.length (bText l ++ more) 0 out = (out ++ l, more, 0)
  | [], out, more, _, _ => by simp [bText_nil, rdLoop_end]
  | b :: l, out, more, h, hS => by
    rw [bText_cons, List.append_assoc]
    rw [rdLoop_step (by simp), rdBlk_text b _ (h b (by simp)) (hS b (by simp))]
    simp only [List.length_cons, Nat.add_sub_cancel]
    rw [rdLoop_text l _ more (fun x hx => h x (by simp [hx])) (fun x hx => hS x (by simp [hx]))]
    simp
theorem read_text (l : List Blk) (size : Nat) (hc : (chk l size).1 = 0) (hS : ∀ b ∈ l, b.S < 4294967296) : readSg (sText l size) = (l, size, 0) := by
  obtain ⟨k1, k2, k3, k4⟩ := chk_ok hc
  have e : sText l size = num size ++ (num l.length ++ (bText l ++ [])) := by rw [sText_is]; simp
  obtain ⟨p1, p2, p3⟩ := rd_num size (num l.length ++ (bText l ++ [])) (by omega)
  obtain ⟨q1, q2, q3⟩ := rd_num l.length (bText l ++ []) (by omega)
  have hr : rd0 (sText l size) = (l, [], 0) := by
    rw [e, rd0_is p2 p3 q2 q3, q1, rdLoop_text l [] [] (fun b hb => by have := k4 b hb; omega) hS]; simp
  have hn : rnN (sText l size) 0 = size := by rw [e]; exact p1
  have := readSg_ok hr rEnd_nil (by rw [hn]; exact hc)
  rw [this, hn]

theorem findB_le : ∀ (l : List Blk) (x : Blk) (i j : Nat) (h : j < l.length), l[j] = x → (i : Int) ≤ findB l x i ∧ findB l x i ≤ i + j
  | [], x, i, j, h, _ => by simp at h
  | b :: l, x, i, j, h, e => by
    rw [findB_cons]
    split
    · omega
    · rename_i hb
      cases j with
      | zero => simp at e; exact absurd e hb
      | succ j =>
        have := findB_le l x (i + 1) j (by simpa using h) (by simpa using e)
        omega
theorem findI_le (l : List Blk) (x : Blk) (j : Nat) (h : j < l.length) (e : l[j] = x) : 0 ≤ findI l x ∧ findI l x ≤ j := by
  have := findB_le l x 0 j h e
  unfold findI; omega
end Go.Proofs.YtdpoalbbcmkceaaGreatDoor
/- A frame's text with one byte turned is none: its sum differs. -/
namespace Go.Proofs.YtdpoalbbcmkceaaGreatDoor
open Go.RowKit
set_option linter.unusedVariables false

theorem xor_ne (b x : UInt8) (hx : x.toNat ≠ 0) : b ^^^ x ≠ b := by
  intro h
  have h2 := congrArg (fun z => b ^^^ z) h
  simp only [← UInt8.xor_assoc, UInt8.xor_self, UInt8.zero_xor] at h2
  rw [h2] at hx
  exact hx rfl
theorem flipB (B C : List UInt8) (p : Nat) (x : UInt8) (hC : C = lowL (csum B)) (hp : p < (B ++ C).length) (hx : x.toNat ≠ 0) :
    lowL (csum (((B ++ C).set p ((B ++ C)[p] ^^^ x)).take B.length)) ≠ ((B ++ C).set p ((B ++ C)[p] ^^^ x)).drop B.length := by
  by_cases h : p < B.length
  · rw [List.getElem_append_left h, List.set_append_left _ _ h]
    obtain ⟨h1, h2⟩ := flip_shape B p x h
    have hn := csum_flip_ne (B.take p) (B.drop (p + 1)) B[p] x hx
    rw [← h1, ← h2] at hn
    have hl : (B.set p (B[p] ^^^ x)).length = B.length := by simp
    rw [show (B.set p (B[p] ^^^ x) ++ C).take B.length = B.set p (B[p] ^^^ x) by rw [← hl, List.take_left'] ; rfl]
    rw [show (B.set p (B[p] ^^^ x) ++ C).drop B.length = C by rw [← hl, List.drop_left'] ; rfl]
    rw [hC]
    exact fun e => hn (lowL_inj (csum_lt _) (csum_lt _) e)
  · have hq : p - B.length < C.length := by rw [List.length_append] at hp; omega
    rw [List.getElem_append_right (by omega), List.set_append_right _ _ (by omega)]
    rw [List.take_left', List.drop_left']
    · rw [← hC]
      intro e
      have e2 : C[p - B.length]? = (C.set (p - B.length) (C[p - B.length] ^^^ x))[p - B.length]? := congrArg (fun l => l[p - B.length]?) e
      rw [List.getElem?_set_self hq, List.getElem?_eq_getElem hq] at e2
      exact xor_ne _ x hx (Option.some.inj e2).symm
    · rfl
    · rfl
theorem dec_flip (f : PFr) (p : Nat) (x : UInt8) (hp : p < (frT f).length) (hx : x.toNat ≠ 0) : decF ((frT f).set p ((frT f)[p] ^^^ x)) = (zfr, 10) := by
  have hl : (frT f).length = (frB f).length + 4 := by rw [frT_is, List.length_append, lowL_len]
  refine decF_sum (by rw [List.length_set]; omega) ?_
  rw [List.length_set, show (frT f).length - 4 = (frB f).length by omega]
  have := flipB (frB f) (lowL (csum (frB f))) p x rfl (by rw [← frT_is]; exact hp) hx
  simpa only [← frT_is] using this
theorem frT_len {f : PFr} (h : f.d.length ≤ 200) : (frT f).length ≤ 1000 := by
  have a := num_len f.e.toNat
  have b := num_len f.q.toNat
  have c := num_len f.d.length
  rw [frT_is, frB_is]
  simp only [List.length_append, List.length_cons, lowL_len]; omega
end Go.Proofs.YtdpoalbbcmkceaaGreatDoor
