/- Contracts of the package sign: Size, well, block, Of, Find. -/
import Derived.Test.YtkhjhbgoccljfaaDoorErr
import Derived.Test.YtkhjhbgoccljfaaDoorBlkPlain
import Derived.Test.YtkhjhbgoccljfaaDoorWeak
import Derived.Test.YtkhjhbgoccljfaaDoorSum
import Derived.Test.YtkhjhbgoccljfaaDoorNum
import Derived.Test.YtkhjhbgoccljfaaDoorArgs
import Derived.Handy
namespace Go.Proofs.YtkhjhbgoccljfaaDoor
open Go.RowKit

set_option maxRecDepth 100000 in
set_option maxHeartbeats 1600000 in
theorem size_any (b : Int) (w : World) : Calls Tryd.prog 26 #[.int .i64 b] w fun e w' => e = .returned (.int .i64 (sizeN b)) ∧ w = w' := by
  have fin : ∀ n : Nat, (n = 4 ∧ b ≤ 16 ∨ n = 8 ∧ 16 < b ∧ b ≤ 64 ∨ n = 16 ∧ 64 < b ∧ b ≤ 256 ∨ n = 32 ∧ 256 < b ∧ b ≤ 1024 ∨ n = 64 ∧ 1024 < b) → n = sizeN b := by
    intro n h; unfold sizeN
    rcases h with ⟨rfl, h⟩ | ⟨rfl, h, h'⟩ | ⟨rfl, h, h'⟩ | ⟨rfl, h, h'⟩ | ⟨rfl, h⟩ <;> ((repeat' split) <;> omega)
  have FIN := Lib.hid fin
  clear fin
  go_enter Tryd.func26, Tryd.ntmps26
  go_wp2_with fail
  go_loop [3] (fun v => ∃ n : Nat, v = .int .i64 n ∧ (n = 4 ∨ n = 8 ∧ 16 < b ∨ n = 16 ∧ 64 < b ∨ n = 32 ∧ 256 < b ∨ n = 64 ∧ 1024 < b)) (fun v => 64 - (intOf v).toNat)
  case atStart => exact ⟨4, rfl, .inl rfl⟩
  case round =>
    obtain ⟨n, rfl, h⟩ := hrel
    rcases h with rfl | ⟨rfl, h⟩ | ⟨rfl, h⟩ | ⟨rfl, h⟩ | ⟨rfl, h⟩
    · by_cases t : (16 : Int) < b
      · go_wp2_with fail
        go_round
        case rel => exact ⟨8, by go_num, by omega⟩
        case measure => simp [intOf]
      · go_wp2_with fail
        go_ret
        exact ⟨ret_int (by rw [← FIN.out 4 (by omega)]; rfl), rfl⟩
    · by_cases t : (64 : Int) < b
      · go_wp2_with fail
        go_round
        case rel => exact ⟨16, by go_num, by omega⟩
        case measure => simp [intOf]
      · go_wp2_with fail
        go_ret
        exact ⟨ret_int (by rw [← FIN.out 8 (by omega)]; rfl), rfl⟩
    · by_cases t : (256 : Int) < b
      · go_wp2_with fail
        go_round
        case rel => exact ⟨32, by go_num, by omega⟩
        case measure => simp [intOf]
      · go_wp2_with fail
        go_ret
        exact ⟨ret_int (by rw [← FIN.out 16 (by omega)]; rfl), rfl⟩
    · by_cases t : (1024 : Int) < b
      · go_wp2_with fail
        go_round
        case rel => exact ⟨64, by go_num, by omega⟩
        case measure => simp [intOf]
      · go_wp2_with fail
        go_ret
        exact ⟨ret_int (by rw [← FIN.out 32 (by omega)]; rfl), rfl⟩
    · go_wp2_with fail
      go_ret
      exact ⟨ret_int (by rw [← FIN.out 64 (by omega)]; rfl), rfl⟩

theorem swell_yes (n : Int) (w : World) (h : 1 ≤ n ∧ n ≤ 64) : Calls Tryd.prog 50 #[.int .i64 n] w fun e w' => e = .returned (.bool true) ∧ w = w' := by
  obtain ⟨h1, h2⟩ := h
  go_enter Tryd.func50, Tryd.ntmps50
  go_wp2_with fail
  go_ret
  exact ⟨by first | rfl | exact ret_bool (by simp [*]), rfl⟩
theorem swell_no (n : Int) (w : World) (h : ¬ (1 ≤ n ∧ n ≤ 64)) : Calls Tryd.prog 50 #[.int .i64 n] w fun e w' => e = .returned (.bool false) ∧ w = w' := by
  have h' : n < 1 ∨ 1 ≤ n ∧ 64 < n := by omega
  clear h
  rcases h' with h1 | ⟨h1, h2⟩
  all_goals
    go_enter Tryd.func50, Tryd.ntmps50
    go_wp2_with fail
    go_ret
    exact ⟨by first | rfl | exact ret_bool (by simp [*]), rfl⟩

def Blk.val (b : Blk) : Value := .agg #[.int .i64 b.N, .int .i64 b.W, .int .u32 b.S]
set_option maxRecDepth 100000 in
theorem block_any (s : ByteArray) (w : World) (hs : s.size ≤ 100000) :
    Calls Tryd.prog 51 #[.string s] w fun e w' => e = .returned (blk s.data.toList).val ∧ Below w.heap.size w w' := by
  have hl : s.data.toList.length = s.size := by simp
  have HL := Lib.hid hl
  clear hl
  go_enter Tryd.func51, Tryd.ntmps51
  go_wp2_with (first | (go_at_call 61; refine (weakSum_any _ _ (by omega)).mono ?_; rintro e w' ⟨rfl, rfl⟩) | (go_at_call 48; refine (sum_any _ _ (by omega)).mono ?_; rintro e w' ⟨rfl, rfl⟩))
  go_returns
  refine ⟨?_, (Below.refl _ w).alloc (Nat.le_refl _) _⟩
  rw [blk_is, HL.out]
  rfl

theorem below_grownBy {w w' : World} (h : Below w.heap.size w w') : w.grownBy w' none := ⟨h.os, h.tape, h.output, h.size, fun k hk _ => h.block k hk⟩
theorem owns_below {w w' : World} {base : Nat} {e : TypeId} {size : Nat} {v : Value} {n : Nat} {xs : List Value} (h : w.ownsRow base e size v n xs) (hb : Below w.heap.size w w') : w'.ownsRow base e size v n xs :=
  h.kept (below_grownBy hb) (by
    rcases v.ownBlock with _ | j
    · exact .inl rfl
    · exact .inr (by simp))
theorem cell_at {w : World} {a : Addr} {i j : Nat} {v : Value} (h : w.cell? (a.add (i + (j + 1))) = some v) : w.cell? ⟨(a.add i).block, (a.add i).off + (j + 1), none⟩ = some v := by
  rw [← Addr.add_succ', Addr.add_add]; exact h
/-- a row of the call's own is such a slice -/
theorem SliceIs.ownedK {W : World} {base k : Nat} {e : TypeId} {v : Value} {n : Nat} {vals : List Value} (h : W.ownsRow base e k v n vals) : SliceIs W v k vals := by
  have h0 := h
  obtain ⟨h1, h2⟩ := h
  rcases h2 with ⟨rfl, h2⟩ | ⟨g, cap, cur, rfl, hg, hh, h3, h4, h5⟩
  · exact .inl ⟨rfl, List.eq_nil_of_length_eq_zero (by subst h2; simpa using h1)⟩
  · refine .inr ⟨⟨g, 0, none⟩, n, cap, rfl, h3, h4, h1, fun i u hi => ?_⟩
    exact h0.cells (g := g) rfl i u hi
theorem owns_slice {W : World} {base k : Nat} {e : TypeId} {v : Value} {n : Nat} {vals : List Value} (h : W.ownsRow base e k v n vals) : ∃ A cap, v = .slice A n cap := by
  obtain ⟨h1, h2⟩ := h
  rcases h2 with ⟨rfl, rfl⟩ | ⟨g, cap, cur, rfl, _⟩
  · exact ⟨none, 0, rfl⟩
  · exact ⟨_, cap, rfl⟩
theorem info_blk : (Tryd.prog.info? 92).map (fun i => (i.zero, i.size, i.bytes)) = some (some (.agg #[.int .i64 0, .int .i64 0, .int .u32 0]), 3, 24) := by kernel_rfl
theorem three_news {w : World} {b : Nat} {u0 u1 u2 : Value} (h : w.heap[b]? = some (.cells #[u0, u1, u2] 92 (0, 0))) : ∀ j u', [u0, u1, u2][j]? = some u' → w.cell? ((⟨b, 0, none⟩ : Addr).add j) = some u' := by
  intro j u' hj
  match j, hj with
  | 0, hj => simp at hj; subst hj; simp [World.cell?, h, Addr.add]
  | 1, hj => simp at hj; subst hj; simp [World.cell?, h, Addr.add]
  | 2, hj => simp at hj; subst hj; simp [World.cell?, h, Addr.add]

theorem of_no (E : Nat → Addr) (s : ByteArray) (size : Int) (w : World) (h : ¬ (s.size ≤ 4000 ∧ 1 ≤ size ∧ size ≤ 64)) (hB : Has E w 2) :
    Calls Tryd.prog 16 #[.string s, .int .i64 size] w fun e w' => e = .returned (.tuple #[.slice none 0 0, ev E 2]) ∧ Drew w w' := by
  have c2 : w.cell? ⟨0, 0, none⟩ = some (errv (E 2)) := hB
  clear hB
  rw [ev_is E (by decide)]
  by_cases h1 : s.size ≤ 4000
  · have hI : ¬ (4000 : Int) < s.size := by omega
    have h2 : ¬ (1 ≤ size ∧ size ≤ 64) := by omega
    have H2 := Lib.hid h2
    clear h h1 h2
    go_enter Tryd.func16, Tryd.ntmps16
    go_wp2_with (go_at_call 50; refine (swell_no _ _ H2.out).mono ?_; rintro e w' ⟨rfl, rfl⟩)
    go_quiet (fail)
    go_wp2_with fail
    go_ret2
    exact ⟨rfl, Drew.drewN _ _⟩
  · have hI : (4000 : Int) < s.size := by omega
    clear h h1
    go_enter Tryd.func16, Tryd.ntmps16
    go_wp2_with fail
    go_quiet (fail)
    go_wp2_with fail
    go_ret2
    exact ⟨rfl, Drew.drewN _ _⟩

set_option maxRecDepth 100000 in
set_option maxHeartbeats 1600000 in
theorem of_yes (s : ByteArray) (size : Nat) (w : World) (hs : s.size ≤ 4000) (h1 : 1 ≤ size) (h2 : size ≤ 64) :
    Calls Tryd.prog 16 #[.string s, .int .i64 size] w fun e w' => ∃ v, e = .returned (.tuple #[v, .nilIface]) ∧ w'.ownsRow w.heap.size 92 3 v (blks size s.data.toList).length (bcells (blks size s.data.toList)) ∧ Below w.heap.size w w' := by
  obtain ⟨i0, hi, hz0, hz1, hz2⟩ := info_parts info_blk
  obtain ⟨L, hL⟩ : ∃ L, L = s.data.toList := ⟨_, rfl⟩
  rw [← hL]
  have hlen : L.length = s.size := by rw [hL]; simp
  have hsL : s = bs (L.drop (0 * size)) := by rw [hL]; simp [bs_of]
  have HL := Lib.hid hlen
  have HS := Lib.hid hsL
  clear hL hlen hsL
  have hI : ¬ (4000 : Int) < s.size := by omega
  have H2 := Lib.hid (show 1 ≤ (size : Int) ∧ (size : Int) ≤ 64 from ⟨by omega, by omega⟩)
  go_enter Tryd.func16, Tryd.ntmps16
  go_wp2_with (go_at_call 50; refine (swell_yes _ _ H2.out).mono ?_; rintro e w' ⟨rfl, rfl⟩)
  go_loopw [0, 6, 7] (fun t out _ wr => ∃ j : Nat, t = .string (bs (L.drop (j * size))) ∧ j * size < s.size + size ∧ wr.ownsRow w.heap.size 92 3 out j (bcells (blksN size L j)) ∧ Below w.heap.size w wr) (fun t _ _ _ => strLen t)
  case atStart => exact ⟨0, congrArg Value.string HS.out, by omega, by rw [blksN_zero, bcells_nil]; exact World.ownsRow_nil _ _ _ _, Below.refl _ _⟩
  case round =>
    obtain ⟨j, rfl, hj, hown, bel⟩ := hrel
    obtain ⟨R, hR⟩ : ∃ R, R = L.drop (j * size) := ⟨_, rfl⟩
    have hRl : R.length = s.size - j * size := by rw [hR, List.length_drop, HL.out]
    have hnx : (R.drop size) = L.drop ((j + 1) * size) := by rw [hR, List.drop_drop]; congr 1; rw [Nat.add_mul]; omega
    have hsu : blksN size L (j + 1) = blksN size L j ++ [blk (R.take size)] := by rw [blksN_succ, hR]
    have hjm : (j + 1) * size = j * size + size := by rw [Nat.add_mul]; omega
    have hjl : j ≤ j * size := Nat.le_mul_of_pos_right _ (by omega)
    have hend : ¬ 0 < R.length → cntOf size L.length = j := fun h => cnt_is (by rw [HL.out]; omega) (by rw [HL.out]; omega)
    have hrel : ∀ w1 w2 v v' B, wr.ownsRow w.heap.size 92 3 v j (bcells (blksN size L j)) → blk (R.take size) = B → w2.ownsRow w.heap.size 92 3 v' (j + 1) (bcells (blksN size L j) ++ B.cells) → Below w.heap.size w w1 → w1.heap.size ≤ (w1.alloc (.cells #[.int .i64 B.N, .int .i64 B.W, .int .u32 B.S] 92)).heap.size →
        (w1.alloc (.cells #[.int .i64 B.N, .int .i64 B.W, .int .u32 B.S] 92)).grownBy w2 v.ownBlock →
        0 < R.length → (j + 1) * size < s.size + size ∧ w2.ownsRow w.heap.size 92 3 v' (j + 1) (bcells (blksN size L (j + 1))) ∧ Below w.heap.size w w2 := by
      intro w1 w2 v v' B h0 hB h1 hb _ hg hp
      refine ⟨by omega, by rw [hsu, hB, bcells_append, bcells_one]; exact h1, (hb.alloc hb.size _).grown hg (Nat.le_trans hb.size (by simp)) (fun k hk => (h0.lt k hk).1)⟩
    rw [← hR]
    generalize j * size = m at hj hRl hjm hjl
    have HN := Lib.hid hnx
    have HJM := Lib.hid hjm
    have HRL := Lib.hid hRl
    have HEND := Lib.hid hend
    have HREL := Lib.hid hrel
    have hRle : R.length ≤ 4000 := by omega
    have hj4 : 0 < R.length → j ≤ 4000 := by omega
    clear hR hnx hsu hjm hRl hend hrel
    by_cases hpos : 0 < R.length
    · have hposI : (0 : Int) < R.length := by omega
      by_cases hle : size ≤ R.length
      · have hleI : (size : Int) ≤ R.length := by omega
        have BA : ∀ w, Calls Tryd.prog 51 #[.string ((bs R).extract 0 size)] w fun e w' => e = .returned (blk (R.take size)).val ∧ Below w.heap.size w w' := fun w => by
          have := block_any ((bs R).extract 0 size) w (by rw [bs_take]; simp; omega)
          rw [bs_take, bs_list, bs_list] at this
          rw [bs_take, bs_list]
          exact this
        have hex : (bs R).extract size R.length = bs (R.drop size) := by have := bs_drop (bs R) size; simpa using this
        have HEX := Lib.hid hex
        clear hex
        generalize hB : blk (R.take size) = B at BA
        have HB := Lib.hid hB
        unfold Blk.val at BA
        have HBA := Lib.hid BA
        clear BA hB
        have KL := Lib.hid (show j ≤ 4000 by exact hj4 hpos)
        clear hj4
        go_wp2_with fail
        refine (HBA.out _).mono ?_
        rintro e w1 ⟨rfl, b1⟩
        have hown1 := owns_below hown b1
        have bel1 := below_trans' bel b1
        clear bel b1
        go_wp2_with (at_builtin; refine wpList_append_own _ rfl _ _ 40 rfl w.heap.size 92 i0 _ 3 24 Tryd.underlying40 hi hz0 hz1 hz2 rfl (by decide) _ _ _ rfl (hown1.alloc _) ⟨w1.heap.size, 0, none⟩ 1 1 B.cells rfl rfl (three_news (heap_alloc_new _ _)) (fun u hu => bcells_cell [B] u (by rw [bcells_one]; exact hu)) (by have := KL.out; unfold maxLen; omega) (by have := KL.out; omega) (by have := bel1.size; simp; omega) ?_; intro v' w2 hown' hgrow _)
        have F := HREL.out w1 w2 _ v' B hown HB.out hown' bel1 (by simp) hgrow hpos
        exact ⟨⟨j + 1, by rw [HEX.out, HN.out], F.1, F.2.1, F.2.2⟩, by rw [HEX.out, strLen_is, strLen_is, bs_size, bs_size, List.length_drop]; omega⟩
      · have hleI : (R.length : Int) < size := by omega
        have htk : R.take size = R := List.take_of_length_le (by omega)
        have hdr : R.drop size = [] := List.drop_eq_nil_of_le (by omega)
        have BA : ∀ w, Calls Tryd.prog 51 #[.string ((bs R).extract 0 R.length)] w fun e w' => e = .returned (blk (R.take size)).val ∧ Below w.heap.size w w' := fun w => by
          have := block_any ((bs R).extract 0 R.length) w (by rw [bs_take]; simp; omega)
          rw [bs_take, bs_list, bs_list, List.take_length] at this
          rw [bs_take, bs_list, List.take_length, htk]
          exact this
        have hex : (bs R).extract R.length R.length = bs (R.drop size) := by have := bs_drop (bs R) R.length; simpa [hdr] using this
        have HEX := Lib.hid hex
        have HDR := Lib.hid hdr
        clear hex htk hdr
        generalize hB : blk (R.take size) = B at BA
        have HB := Lib.hid hB
        unfold Blk.val at BA
        have HBA := Lib.hid BA
        clear BA hB
        have KL := Lib.hid (show j ≤ 4000 by exact hj4 hpos)
        clear hj4
        go_wp2_with fail
        refine (HBA.out _).mono ?_
        rintro e w1 ⟨rfl, b1⟩
        have hown1 := owns_below hown b1
        have bel1 := below_trans' bel b1
        clear bel b1
        go_wp2_with (at_builtin; refine wpList_append_own _ rfl _ _ 40 rfl w.heap.size 92 i0 _ 3 24 Tryd.underlying40 hi hz0 hz1 hz2 rfl (by decide) _ _ _ rfl (hown1.alloc _) ⟨w1.heap.size, 0, none⟩ 1 1 B.cells rfl rfl (three_news (heap_alloc_new _ _)) (fun u hu => bcells_cell [B] u (by rw [bcells_one]; exact hu)) (by have := KL.out; unfold maxLen; omega) (by have := KL.out; omega) (by have := bel1.size; simp; omega) ?_; intro v' w2 hown' hgrow _)
        have F := HREL.out w1 w2 _ v' B hown HB.out hown' bel1 (by simp) hgrow hpos
        exact ⟨⟨j + 1, by rw [← HN.out, HDR.out, bs_nil]; rfl, F.1, F.2.1, F.2.2⟩, by rw [show ByteArray.empty = bs [] from bs_nil.symm, strLen_is, strLen_is, bs_size, bs_size]; simpa using hpos⟩
    · have hposI : ¬ (0 : Int) < R.length := by omega
      go_wp2_with fail
      have hc := Lib.hid (HEND.out hpos)
      go_ret2
      refine ⟨_, rfl, ?_, bel⟩
      rw [blks_len]
      unfold blks
      rw [hc.out]
      exact hown

set_option maxRecDepth 100000 in
set_option maxHeartbeats 1600000 in
theorem find_any (s0 : Option Addr) (n0 c0 : Nat) (l : List Blk) (s : ByteArray) (w : World) (hs : s.size ≤ 100000) (hl : SliceIs w (.slice s0 n0 c0) 3 (bcells l)) :
    Calls Tryd.prog 28 #[.slice s0 n0 c0, .string s] w fun e w' => e = .returned (.int .i64 (findI l (blk s.data.toList))) ∧ Below w.heap.size w w' := by
  have hlen : l.length = n0 ∧ c0 ≤ maxLen ∧ n0 ≤ c0 := by
    obtain ⟨s0', n0', c0', e1, e2, e3, e4, _⟩ := hl.get
    cases e1
    rw [bcells_len] at e2
    exact ⟨by omega, e4, e3⟩
  obtain ⟨rfl, hc0, hc1⟩ := hlen
  unfold maxLen at hc0
  have HLS := Lib.hid hl
  clear hl
  have hwl := ws_bd s.data.toList
  obtain ⟨hw0, hw1⟩ := hwl
  have hsl : s.data.toList.length = s.size := by simp
  have hx : blk s.data.toList = ⟨s.size, ws s.data.toList, csum s.data.toList⟩ := by rw [blk_is, hsl]
  rw [hx]
  clear hx hsl
  go_enter Tryd.func28, Tryd.ntmps28
  go_wp2_with (go_at_call 61; refine (weakSum_any _ _ (by omega)).mono ?_; rintro e w' ⟨rfl, rfl⟩)
  go_loopw [12, 6, 7] (fun i _ _ wr => ∃ k : Nat, i = .int .i64 k ∧ k ≤ l.length ∧ findI l ⟨s.size, ws s.data.toList, csum s.data.toList⟩ = findB (l.drop k) ⟨s.size, ws s.data.toList, csum s.data.toList⟩ k ∧ Below w.heap.size w wr) (fun i _ _ _ => l.length - (intOf i).toNat)
  case atStart => exact ⟨0, rfl, by omega, rfl, Below.refl _ _⟩
  case round =>
    obtain ⟨k, rfl, hk, hf, bel⟩ := hrel
    have HF := Lib.hid hf
    clear hf
    by_cases hlt : k < l.length
    · have hltI : (k : Int) < l.length := by omega
      obtain ⟨s0', n0', c0', e1, _, _, _, g1⟩ := (HLS.out.below bel).get
      cases e1
      obtain ⟨g2, g3, g4⟩ := bcells_get l k hlt
      obtain ⟨a, rfl, d0⟩ := g1 _ _ g2
      obtain ⟨a', e', d1⟩ := g1 _ _ g3
      cases e'
      obtain ⟨a', e', d2⟩ := g1 _ _ g4
      cases e'
      clear g1 g2 g3 g4
      have KK := Lib.hid (show k + 1 ≤ l.length by omega)
      have HIT := Lib.hid (findB_drop_hit l ⟨s.size, ws s.data.toList, csum s.data.toList⟩ k hlt)
      have MISS := Lib.hid (findB_drop_miss l ⟨s.size, ws s.data.toList, csum s.data.toList⟩ k hlt)
      have x1 : (0 : Int) ≤ k := by omega
      have x2 : (k : Int).toNat = k := by omega
      generalize l[k] = b at d0 d1 d2 HIT MISS
      obtain ⟨bn, bw, bS⟩ := b
      simp only [] at d0 d1 d2
      have d1 := cell_at d1
      have d2 := cell_at d2
      have SUM := Lib.hid (fun w => sum_any s w hs)
      have belA := (bel.alloc bel.size (.cells #[.int .i64 bn, .int .i64 bw, .int .u32 bS] 92))
      by_cases e0 : bn = s.size
      · subst e0
        by_cases e1 : bw = ws s.data.toList
        · subst e1
          by_cases e2 : bS = csum s.data.toList
          · subst e2
            go_wp2_with fail
            go_quiet ((go_at_call 48; first | exact quiet_left (SUM.out _) | exact quiet_add_left (SUM.out _)))
            go_wp2_with fail
            go_ret
            exact ⟨ret_int (by rw [HF.out, HIT.out (by simp)]), below_drewN belA _⟩
          · have hb : ((bS : Int) == ((csum s.data.toList : Nat) : Int)) = false := by simp; omega
            have M := Lib.hid (MISS.out (by intro h; cases h; exact e2 rfl))
            clear e2
            go_wp2_with fail
            go_quiet ((go_at_call 48; first | exact quiet_left (SUM.out _) | exact quiet_add_left (SUM.out _)))
            go_wp2_with fail
            go_roundw
            case rel => exact ⟨k + 1, by go_num, KK.out, by rw [HF.out, M.out], below_drewN belA _⟩
            case measure => simp [intOf]; omega
        · have hb : (bw == ws s.data.toList) = false := by simp [e1]
          have M := Lib.hid (MISS.out (by intro h; cases h; exact e1 rfl))
          clear e1
          go_wp2_with fail
          go_quiet (fail)
          go_wp2_with fail
          go_roundw
          case rel => exact ⟨k + 1, by go_num, KK.out, by rw [HF.out, M.out], below_drewN belA _⟩
          case measure => simp [intOf]; omega
      · have hb : (bn == (s.size : Int)) = false := by simp [e0]
        have M := Lib.hid (MISS.out (by intro h; cases h; exact e0 rfl))
        clear e0
        go_wp2_with fail
        go_quiet (fail)
        go_wp2_with fail
        go_roundw
        case rel => exact ⟨k + 1, by go_num, KK.out, by rw [HF.out, M.out], below_drewN belA _⟩
        case measure => simp [intOf]; omega
    · have hltI : ¬ (k : Int) < l.length := by omega
      have hend := Lib.hid (findB_end l ⟨s.size, ws s.data.toList, csum s.data.toList⟩ k (by omega))
      go_wp2_with fail
      go_ret
      exact ⟨ret_int (by rw [HF.out, hend.out]), bel⟩
end Go.Proofs.YtkhjhbgoccljfaaDoor
