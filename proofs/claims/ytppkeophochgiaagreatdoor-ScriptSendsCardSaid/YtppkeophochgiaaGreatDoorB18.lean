/- Texts of one proof, one behind the other: FrEnc, Sign, Check, SignText. -/
import Derived.Test.YtppkeophochgiaaGreatDoorB13
import Derived.Test.YtppkeophochgiaaGreatDoorB03
import Derived.Test.YtppkeophochgiaaGreatDoorB01
import Derived.Test.YtppkeophochgiaaGreatDoorB17
import Derived.Test.YtppkeophochgiaaGreatDoorB10
import Derived.Test.YtppkeophochgiaaGreatDoorB04
import Derived.Test.YtppkeophochgiaaGreatDoorB08
import Derived.Handy
import Derived.Test.YtppkeophochgiaaGreatDoorB16
/- Contract of frame.Encode. -/
namespace Go.Proofs.YtppkeophochgiaaGreatDoor
open Go.RowKit
set_option linter.unusedVariables false

theorem bsadd (a b : List UInt8) : bs a ++ bs b = bs (a ++ b) := eq_bs (by simp)
def encL (f : PFr) : List UInt8 := if frC f = 0 then frT f else []
theorem encL_yes {f : PFr} (h : frC f = 0) : encL f = frT f := by simp [encL, h]
theorem encL_no {f : PFr} (h : frC f ≠ 0) : encL f = [] := by simp [encL, h]
attribute [irreducible] encL
attribute [local irreducible] frB frT frC lowL
theorem frB_eq (f : PFr) : frB f = [f.k] ++ (num f.e.toNat ++ num f.q.toNat ++ (num f.d.length ++ f.d)) := by rw [frB_is]; rfl

set_option maxRecDepth 100000 in
set_option maxHeartbeats 3200000 in
theorem fenc_any (E : Nat → Addr) (f : PFr) (w : World) (h2 : Has E w 2) (h4 : Has E w 4) : Calls Tryz.prog 217 #[f.val] w fun e w' => e = .returned (.tuple #[.string (bs (encL f)), ev E (frC f)]) ∧ Below w.heap.size w w' := by
  have CH := Lib.hid (fun (w' : World) (b : Below w.heap.size w w') => fcheck_any E f w' (h2.below b) (h4.below b))
  have HB := Lib.hid h2
  have HEZ := Lib.hid (ev_zero E)
  have HEV := Lib.hid (ev_pos E (c := frC f))
  have YES := Lib.hid (encL_yes (f := f))
  have NO := Lib.hid (encL_no (f := f))
  have ZERO := Lib.hid (frC_zero (f := f))
  have HBE := Lib.hid (frB_eq f)
  have HTE := Lib.hid (frT_is f)
  clear h2 h4
  rw [PFr.val_is] at CH ⊢
  by_cases hc : frC f = 0
  · obtain ⟨hk, ⟨he1, he2⟩, ⟨hq1, hq2⟩, hd⟩ := ZERO.out hc
    rw [YES.out hc, hc, HEZ.out]
    rw [hc, HEZ.out] at CH
    obtain ⟨k, e, q, d⟩ := f
    simp only [] at CH HBE HTE hk he1 he2 hq1 hq2 hd ⊢
    have HF2 := Lib.hid HTE.out
    generalize frB ⟨k, e, q, d⟩ = B at *
    generalize frT ⟨k, e, q, d⟩ = T at *
    have hk256 := k.toNat_lt
    have n1 := num_len e.toNat
    have n2 := num_len q.toNat
    have n3 := num_len d.length
    obtain ⟨X, hX⟩ : ∃ X, X = num e.toNat ++ num q.toNat ++ (num d.length ++ d) := ⟨_, rfl⟩
    have HXP : Hid (0 < X.length) := by show _ < _; rw [hX]; have := num_pos e.toNat; simp only [List.length_append]; omega
    have hXl : X.length ≤ 20021 := by rw [hX]; simp only [List.length_append]; omega
    have HX := Lib.hid hX
    rw [← hX] at HBE
    have hBl : B.length ≤ 20022 := by rw [HBE.out]; simp; omega
    have hkB : bs [k] ++ bs X = bs B := by rw [HBE.out]; exact bsadd _ _
    have SU := Lib.hid (fun w' => sum_any (bs B) w' (by rw [bs_size]; omega))
    rw [bs_list] at SU
    have LW := Lib.hid (fun w' => low_any (csum B) w' (csum_lt B))
    have hTB : bs B ++ bs (lowL (csum B)) = bs T := by rw [HTE.out]; exact bsadd _ _
    have hll := lowL_len (csum B)
    have hcat : ¬ 9223372036854775807 < B.length + (lowL (csum B)).length := by omega
    have hcat2 : ¬ 9223372036854775807 < [k].length + X.length := by simp; omega
    have CV := Lib.hid (fun (w' : World) (b : Nat) h => conv_one (P := Tryz.prog) w' 107 9 5 Tryz.underlying107 Tryz.underlying5 Tryz.underlying9 b 1 k h)
    have HK1 := Lib.hid (show (⟨#[k]⟩ : ByteArray) = bs [k] by unfold bs; rfl)
    simp only [HK1.out] at CV
    generalize lowL (csum B) = LO at *
    clear YES NO ZERO HEV hc HF2 hX
    have b0 := below_alloc' w (.cells #[.int .u8 k.toNat, .int .i64 e, .int .i64 q, .string (bs d)] 248)
    have G0 : (w.alloc (.cells #[.int .u8 k.toNat, .int .i64 e, .int .i64 q, .string (bs d)] 248)).heap[w.heap.size]? = some (.cells #[.int .u8 k.toNat, .int .i64 e, .int .i64 q, .string (bs d)] 248 (0, 0)) := heap_alloc_new _ _
    go_enter Tryz.func217, Tryz.ntmps217
    go_wp2_with fail
    refine (CH.out _ b0).mono ?_
    rintro e' w1 ⟨rfl, b1⟩
    have G1 := (b1.block w.heap.size (lt_of_block G0)).trans G0
    have b01 := below_trans' b0 b1
    have hgb : w.heap.size < w1.heap.size := lt_of_block G1
    have HW0 := Lib.hid (Nat.le_refl w.heap.size)
    have f1' : w1.cell? ⟨w.heap.size, 1, none⟩ = some (.int .i64 e) := by simp [World.cell?, G1]
    clear b0 b1 G0
    go_wp2_with fail
    clear f1'
    have W2 := WAt.new E w1
    have b02 := b01.alloc b01.size (.cells #[.slice none 0 0, .nilIface] 312)
    have G2 := ((below_alloc' w1 (.cells #[.slice none 0 0, .nilIface] 312)).block w.heap.size hgb).trans G1
    have hb : w.heap.size ≤ w1.heap.size := b01.size
    generalize w1.alloc (.cells #[.slice none 0 0, .nilIface] 312) = w2 at *
    have f1 : w2.cell? ⟨w.heap.size, 1, none⟩ = some (.int .i64 e) := by simp [World.cell?, G2]
    generalize w1.heap.size = b at *
    clear b01 G1
    refine (wnum_ok E b _ _ _ (by simp) W2 (HB.out.below b02) (by omega) (by omega)).mono ?_
    rintro e' w3 ⟨rfl, W3, K3⟩
    have b03 := K3.old b02 hb W2.lt
    have G3 := K3.obj G2 (by omega) (by decide)
    rw [List.nil_append] at W3
    clear b02 K3 W2 G2 f1
    have f2 : w3.cell? ⟨w.heap.size, 2, none⟩ = some (.int .i64 q) := by simp [World.cell?, G3]
    go_wp2_with fail
    refine (wnum_ok E b _ _ _ (by omega) W3 (HB.out.below b03) (by omega) (by omega)).mono ?_
    rintro e' w4 ⟨rfl, W4, K4⟩
    have b04 := K4.old b03 hb W3.lt
    have G4 := K4.obj G3 (by omega) (by decide)
    clear b03 K4 W3 G3 f2
    have f3 : w4.cell? ⟨w.heap.size, 3, none⟩ = some (.string (bs d)) := by simp [World.cell?, G4]
    go_wp2_with fail
    refine (wtext_ok E b _ _ _ (by simp only [List.length_append]; omega) W4 (HB.out.below b04) (by rw [bs_size]; omega)).mono ?_
    rintro e' w5 ⟨rfl, W5, K5⟩
    have b05 := K5.old b04 hb W4.lt
    have G5 := K5.obj G4 (by omega) (by decide)
    rw [bs_size, bs_list, ← HX.out] at W5
    clear b04 K5 W4 G4 f3
    go_wp2_with fail
    have DN := wdone_any E b X 0 w5 (fun _ => HXP.out) W5
    rw [doneL_zero, HEZ.out] at DN
    refine DN.mono ?_
    rintro e' w6 ⟨rfl, b6⟩
    have b6 := b6.below w5.heap.size
    have b06 := below_trans' b05 b6
    have G6 := (b6.block w.heap.size (lt_of_block G5)).trans G5
    have f0 : w6.cell? ⟨w.heap.size, 0, none⟩ = some (.int .u8 k.toNat) := by simp [World.cell?, G6]
    have hcv := CV.out (w6.alloc (.cells #[.int .u8 k.toNat] 5)) w6.heap.size (by simp)
    clear b05 b6 G5 DN W5 G6
    go_wp2_with (go_at_call 121; refine (SU.out _).mono ?_; rintro e' w7 ⟨rfl, rfl⟩)
    refine (LW.out _).mono ?_
    rintro e' w8 ⟨rfl, b8⟩
    go_wp2_with fail
    go_ret2
    exact ⟨ret2 (by first | rfl | (rw [← hTB]; done) | (rw [hTB]; done)) (by first | rfl | trivial), below_trans' (b06.alloc b06.size _) b8⟩
  · rw [NO.out hc, HEV.out hc]
    rw [HEV.out hc] at CH
    have b0 := below_alloc' w (.cells #[.int .u8 f.k.toNat, .int .i64 f.e, .int .i64 f.q, .string (bs f.d)] 248)
    clear YES NO ZERO HEV HBE HTE hc
    go_enter Tryz.func217, Tryz.ntmps217
    go_wp2_with fail
    refine (CH.out _ b0).mono ?_
    rintro e' w1 ⟨rfl, b1⟩
    go_wp2_with fail
    go_ret2
    exact ⟨ret2 (by rw [bs_nil]; rfl) rfl, below_trans' b0 b1⟩
end Go.Proofs.YtppkeophochgiaaGreatDoor
/- Contracts of the package sign: Size, well, block, Of, Find. -/
namespace Go.Proofs.YtppkeophochgiaaGreatDoor
open Go.RowKit

set_option maxRecDepth 100000 in
set_option maxHeartbeats 1600000 in
theorem size_any (b : Int) (w : World) : Calls Tryz.prog 245 #[.int .i64 b] w fun e w' => e = .returned (.int .i64 (sizeN b)) ∧ w = w' := by
  have fin : ∀ n : Nat, (n = 4 ∧ b ≤ 16 ∨ n = 8 ∧ 16 < b ∧ b ≤ 64 ∨ n = 16 ∧ 64 < b ∧ b ≤ 256 ∨ n = 32 ∧ 256 < b ∧ b ≤ 1024 ∨ n = 64 ∧ 1024 < b) → n = sizeN b := by
    intro n h; unfold sizeN
    rcases h with ⟨rfl, h⟩ | ⟨rfl, h, h'⟩ | ⟨rfl, h, h'⟩ | ⟨rfl, h, h'⟩ | ⟨rfl, h⟩ <;> ((repeat' split) <;> omega)
  have FIN := Lib.hid fin
  clear fin
  go_enter Tryz.func245, Tryz.ntmps245
  go_wp2_with fail
  go_loop [3] (fun v => ∃ n : Nat, v = .int .i64 n ∧ (n = 4 ∨ n = 8 ∧ 16 < b ∨ n = 16 ∧ 64 < b ∨ n = 32 ∧ 256 < b ∨ n = 64 ∧ 1024 < b)) (fun v => 64 - (intOf v).toNat)
  case atStart => exact ⟨4, rfl, .inl rfl⟩
  case round =>
    obtain ⟨n, rfl, h⟩ := hrel
    rcases h with rfl | ⟨rfl, h⟩ | ⟨rfl, h⟩ | ⟨rfl, h⟩ | ⟨rfl, h⟩
    · by_cases t : (16 : Int) < b
      · go_wp2_with fail
        go_round
        case rel => exact ⟨8, by go_num, by omega⟩
        case measure => simp [intOf]
      · go_wp2_with fail
        go_ret
        exact ⟨ret_int (by rw [← FIN.out 4 (by omega)]; rfl), rfl⟩
    · by_cases t : (64 : Int) < b
      · go_wp2_with fail
        go_round
        case rel => exact ⟨16, by go_num, by omega⟩
        case measure => simp [intOf]
      · go_wp2_with fail
        go_ret
        exact ⟨ret_int (by rw [← FIN.out 8 (by omega)]; rfl), rfl⟩
    · by_cases t : (256 : Int) < b
      · go_wp2_with fail
        go_round
        case rel => exact ⟨32, by go_num, by omega⟩
        case measure => simp [intOf]
      · go_wp2_with fail
        go_ret
        exact ⟨ret_int (by rw [← FIN.out 16 (by omega)]; rfl), rfl⟩
    · by_cases t : (1024 : Int) < b
      · go_wp2_with fail
        go_round
        case rel => exact ⟨64, by go_num, by omega⟩
        case measure => simp [intOf]
      · go_wp2_with fail
        go_ret
        exact ⟨ret_int (by rw [← FIN.out 32 (by omega)]; rfl), rfl⟩
    · go_wp2_with fail
      go_ret
      exact ⟨ret_int (by rw [← FIN.out 64 (by omega)]; rfl), rfl⟩

theorem swell_yes (n : Int) (w : World) (h : 1 ≤ n ∧ n ≤ 64) : Calls Tryz.prog 150 #[.int .i64 n] w fun e w' => e = .returned (.bool true) ∧ w = w' := by
  obtain ⟨h1, h2⟩ := h
  go_enter Tryz.func150, Tryz.ntmps150
  go_wp2_with fail
  go_ret
  exact ⟨by first | rfl | exact ret_bool (by simp [*]), rfl⟩
theorem swell_no (n : Int) (w : World) (h : ¬ (1 ≤ n ∧ n ≤ 64)) : Calls Tryz.prog 150 #[.int .i64 n] w fun e w' => e = .returned (.bool false) ∧ w = w' := by
  have h' : n < 1 ∨ 1 ≤ n ∧ 64 < n := by omega
  clear h
  rcases h' with h1 | ⟨h1, h2⟩
  all_goals
    go_enter Tryz.func150, Tryz.ntmps150
    go_wp2_with fail
    go_ret
    exact ⟨by first | rfl | exact ret_bool (by simp [*]), rfl⟩

def Blk.val (b : Blk) : Value := .agg #[.int .i64 b.N, .int .i64 b.W, .int .u32 b.S]
set_option maxRecDepth 100000 in
theorem block_any (s : ByteArray) (w : World) (hs : s.size ≤ 100000) :
    Calls Tryz.prog 151 #[.string s] w fun e w' => e = .returned (blk s.data.toList).val ∧ Below w.heap.size w w' := by
  have hl : s.data.toList.length = s.size := by simp
  have HL := Lib.hid hl
  clear hl
  go_enter Tryz.func151, Tryz.ntmps151
  go_wp2_with (first | (go_at_call 187; refine (weakSum_any _ _ (by omega)).mono ?_; rintro e w' ⟨rfl, rfl⟩) | (go_at_call 121; refine (sum_any _ _ (by omega)).mono ?_; rintro e w' ⟨rfl, rfl⟩))
  go_returns
  refine ⟨?_, (Below.refl _ w).alloc (Nat.le_refl _) _⟩
  rw [blk_is, HL.out]
  rfl

theorem info_blk : (Tryz.prog.info? 142).map (fun i => (i.zero, i.size, i.bytes)) = some (some (.agg #[.int .i64 0, .int .i64 0, .int .u32 0]), 3, 24) := by kernel_rfl
theorem three_news {w : World} {b : Nat} {u0 u1 u2 : Value} (h : w.heap[b]? = some (.cells #[u0, u1, u2] 142 (0, 0))) : ∀ j u', [u0, u1, u2][j]? = some u' → w.cell? ((⟨b, 0, none⟩ : Addr).add j) = some u' := by
  intro j u' hj
  match j, hj with
  | 0, hj => simp at hj; subst hj; simp [World.cell?, h, Addr.add]
  | 1, hj => simp at hj; subst hj; simp [World.cell?, h, Addr.add]
  | 2, hj => simp at hj; subst hj; simp [World.cell?, h, Addr.add]

theorem of_no (E : Nat → Addr) (s : ByteArray) (size : Int) (w : World) (h : ¬ (s.size ≤ 4000 ∧ 1 ≤ size ∧ size ≤ 64)) (hB : Has E w 2) :
    Calls Tryz.prog 111 #[.string s, .int .i64 size] w fun e w' => e = .returned (.tuple #[.slice none 0 0, ev E 2]) ∧ Drew w w' := by
  have c2 : w.cell? ⟨0, 0, none⟩ = some (errv (E 2)) := hB
  clear hB
  rw [ev_is E (by decide)]
  by_cases h1 : s.size ≤ 4000
  · have hI : ¬ (4000 : Int) < s.size := by omega
    have h2 : ¬ (1 ≤ size ∧ size ≤ 64) := by omega
    have H2 := Lib.hid h2
    clear h h1 h2
    go_enter Tryz.func111, Tryz.ntmps111
    go_wp2_with (go_at_call 150; refine (swell_no _ _ H2.out).mono ?_; rintro e w' ⟨rfl, rfl⟩)
    go_quiet (fail)
    go_wp2_with fail
    go_ret2
    exact ⟨rfl, Drew.drewN _ _⟩
  · have hI : (4000 : Int) < s.size := by omega
    clear h h1
    go_enter Tryz.func111, Tryz.ntmps111
    go_wp2_with fail
    go_quiet (fail)
    go_wp2_with fail
    go_ret2
    exact ⟨rfl, Drew.drewN _ _⟩

set_option maxRecDepth 100000 in
set_option maxHeartbeats 1600000 in
theorem of_yes (s : ByteArray) (size : Nat) (w : World) (hs : s.size ≤ 4000) (h1 : 1 ≤ size) (h2 : size ≤ 64) :
    Calls Tryz.prog 111 #[.string s, .int .i64 size] w fun e w' => ∃ v, e = .returned (.tuple #[v, .nilIface]) ∧ w'.ownsRow w.heap.size 142 3 v (blks size s.data.toList).length (bcells (blks size s.data.toList)) ∧ Below w.heap.size w w' := by
  obtain ⟨i0, hi, hz0, hz1, hz2⟩ := info_parts info_blk
  obtain ⟨L, hL⟩ : ∃ L, L = s.data.toList := ⟨_, rfl⟩
  rw [← hL]
  have hlen : L.length = s.size := by rw [hL]; simp
  have hsL : s = bs (L.drop (0 * size)) := by rw [hL]; simp [bs_of]
  have HL := Lib.hid hlen
  have HS := Lib.hid hsL
  clear hL hlen hsL
  have hI : ¬ (4000 : Int) < s.size := by omega
  have H2 := Lib.hid (show 1 ≤ (size : Int) ∧ (size : Int) ≤ 64 from ⟨by omega, by omega⟩)
  go_enter Tryz.func111, Tryz.ntmps111
  go_wp2_with (go_at_call 150; refine (swell_yes _ _ H2.out).mono ?_; rintro e w' ⟨rfl, rfl⟩)
  go_loopw [0, 6, 7] (fun t out _ wr => ∃ j : Nat, t = .string (bs (L.drop (j * size))) ∧ j * size < s.size + size ∧ wr.ownsRow w.heap.size 142 3 out j (bcells (blksN size L j)) ∧ Below w.heap.size w wr) (fun t _ _ _ => strLen t)
  case atStart => exact ⟨0, congrArg Value.string HS.out, by omega, by rw [blksN_zero, bcells_nil]; exact World.ownsRow_nil _ _ _ _, Below.refl _ _⟩
  case round =>
    obtain ⟨j, rfl, hj, hown, bel⟩ := hrel
    obtain ⟨R, hR⟩ : ∃ R, R = L.drop (j * size) := ⟨_, rfl⟩
    have hRl : R.length = s.size - j * size := by rw [hR, List.length_drop, HL.out]
    have hnx : (R.drop size) = L.drop ((j + 1) * size) := by rw [hR, List.drop_drop]; congr 1; rw [Nat.add_mul]; omega
    have hsu : blksN size L (j + 1) = blksN size L j ++ [blk (R.take size)] := by rw [blksN_succ, hR]
    have hjm : (j + 1) * size = j * size + size := by rw [Nat.add_mul]; omega
    have hjl : j ≤ j * size := Nat.le_mul_of_pos_right _ (by omega)
    have hend : ¬ 0 < R.length → cntOf size L.length = j := fun h => cnt_is (by rw [HL.out]; omega) (by rw [HL.out]; omega)
    have hrel : ∀ w1 w2 v v' B, wr.ownsRow w.heap.size 142 3 v j (bcells (blksN size L j)) → blk (R.take size) = B → w2.ownsRow w.heap.size 142 3 v' (j + 1) (bcells (blksN size L j) ++ B.cells) → Below w.heap.size w w1 → w1.heap.size ≤ (w1.alloc (.cells #[.int .i64 B.N, .int .i64 B.W, .int .u32 B.S] 142)).heap.size →
        (w1.alloc (.cells #[.int .i64 B.N, .int .i64 B.W, .int .u32 B.S] 142)).grownBy w2 v.ownBlock →
        0 < R.length → (j + 1) * size < s.size + size ∧ w2.ownsRow w.heap.size 142 3 v' (j + 1) (bcells (blksN size L (j + 1))) ∧ Below w.heap.size w w2 := by
      intro w1 w2 v v' B h0 hB h1 hb _ hg hp
      refine ⟨by omega, by rw [hsu, hB, bcells_append, bcells_one]; exact h1, (hb.alloc hb.size _).grown hg (Nat.le_trans hb.size (by simp)) (fun k hk => (h0.lt k hk).1)⟩
    rw [← hR]
    generalize j * size = m at hj hRl hjm hjl
    have HN := Lib.hid hnx
    have HJM := Lib.hid hjm
    have HRL := Lib.hid hRl
    have HEND := Lib.hid hend
    have HREL := Lib.hid hrel
    have hRle : R.length ≤ 4000 := by omega
    have hj4 : 0 < R.length → j ≤ 4000 := by omega
    clear hR hnx hsu hjm hRl hend hrel
    by_cases hpos : 0 < R.length
    · have hposI : (0 : Int) < R.length := by omega
      by_cases hle : size ≤ R.length
      · have hleI : (size : Int) ≤ R.length := by omega
        have BA : ∀ w, Calls Tryz.prog 151 #[.string ((bs R).extract 0 size)] w fun e w' => e = .returned (blk (R.take size)).val ∧ Below w.heap.size w w' := fun w => by
          have := block_any ((bs R).extract 0 size) w (by rw [bs_take]; simp; omega)
          rw [bs_take, bs_list, bs_list] at this
          rw [bs_take, bs_list]
          exact this
        have hex : (bs R).extract size R.length = bs (R.drop size) := by have := bs_drop (bs R) size; simpa using this
        have HEX := Lib.hid hex
        clear hex
        generalize hB : blk (R.take size) = B at BA
        have HB := Lib.hid hB
        unfold Blk.val at BA
        have HBA := Lib.hid BA
        clear BA hB
        have KL := Lib.hid (show j ≤ 4000 by exact hj4 hpos)
        clear hj4
        go_wp2_with fail
        refine (HBA.out _).mono ?_
        rintro e w1 ⟨rfl, b1⟩
        have hown1 := owns_below hown b1
        have bel1 := below_trans' bel b1
        clear bel b1
        go_wp2_with (at_builtin; refine wpList_append_own _ rfl _ _ 103 rfl w.heap.size 142 i0 _ 3 24 Tryz.underlying103 hi hz0 hz1 hz2 rfl (by decide) _ _ _ rfl (hown1.alloc _) ⟨w1.heap.size, 0, none⟩ 1 1 B.cells rfl rfl (three_news (heap_alloc_new _ _)) (fun u hu => bcells_cell [B] u (by rw [bcells_one]; exact hu)) (by have := KL.out; unfold maxLen; omega) (by have := KL.out; omega) (by have := bel1.size; simp; omega) ?_; intro v' w2 hown' hgrow _)
        have F := HREL.out w1 w2 _ v' B hown HB.out hown' bel1 (by simp) hgrow hpos
        exact ⟨⟨j + 1, by rw [HEX.out, HN.out], F.1, F.2.1, F.2.2⟩, by rw [HEX.out, strLen_is, strLen_is, bs_size, bs_size, List.length_drop]; omega⟩
      · have hleI : (R.length : Int) < size := by omega
        have htk : R.take size = R := List.take_of_length_le (by omega)
        have hdr : R.drop size = [] := List.drop_eq_nil_of_le (by omega)
        have BA : ∀ w, Calls Tryz.prog 151 #[.string ((bs R).extract 0 R.length)] w fun e w' => e = .returned (blk (R.take size)).val ∧ Below w.heap.size w w' := fun w => by
          have := block_any ((bs R).extract 0 R.length) w (by rw [bs_take]; simp; omega)
          rw [bs_take, bs_list, bs_list, List.take_length] at this
          rw [bs_take, bs_list, List.take_length, htk]
          exact this
        have hex : (bs R).extract R.length R.length = bs (R.drop size) := by have := bs_drop (bs R) R.length; simpa [hdr] using this
        have HEX := Lib.hid hex
        have HDR := Lib.hid hdr
        clear hex htk hdr
        generalize hB : blk (R.take size) = B at BA
        have HB := Lib.hid hB
        unfold Blk.val at BA
        have HBA := Lib.hid BA
        clear BA hB
        have KL := Lib.hid (show j ≤ 4000 by exact hj4 hpos)
        clear hj4
        go_wp2_with fail
        refine (HBA.out _).mono ?_
        rintro e w1 ⟨rfl, b1⟩
        have hown1 := owns_below hown b1
        have bel1 := below_trans' bel b1
        clear bel b1
        go_wp2_with (at_builtin; refine wpList_append_own _ rfl _ _ 103 rfl w.heap.size 142 i0 _ 3 24 Tryz.underlying103 hi hz0 hz1 hz2 rfl (by decide) _ _ _ rfl (hown1.alloc _) ⟨w1.heap.size, 0, none⟩ 1 1 B.cells rfl rfl (three_news (heap_alloc_new _ _)) (fun u hu => bcells_cell [B] u (by rw [bcells_one]; exact hu)) (by have := KL.out; unfold maxLen; omega) (by have := KL.out; omega) (by have := bel1.size; simp; omega) ?_; intro v' w2 hown' hgrow _)
        have F := HREL.out w1 w2 _ v' B hown HB.out hown' bel1 (by simp) hgrow hpos
        exact ⟨⟨j + 1, by rw [← HN.out, HDR.out, bs_nil]; rfl, F.1, F.2.1, F.2.2⟩, by rw [show ByteArray.empty = bs [] from bs_nil.symm, strLen_is, strLen_is, bs_size, bs_size]; simpa using hpos⟩
    · have hposI : ¬ (0 : Int) < R.length := by omega
      go_wp2_with fail
      have hc := Lib.hid (HEND.out hpos)
      go_ret2
      refine ⟨_, rfl, ?_, bel⟩
      rw [blks_len]
      unfold blks
      rw [hc.out]
      exact hown

set_option maxRecDepth 100000 in
set_option maxHeartbeats 1600000 in
theorem find_any (s0 : Option Addr) (n0 c0 : Nat) (l : List Blk) (s : ByteArray) (w : World) (hs : s.size ≤ 100000) (hl : SliceIs w (.slice s0 n0 c0) 3 (bcells l)) :
    Calls Tryz.prog 153 #[.slice s0 n0 c0, .string s] w fun e w' => e = .returned (.int .i64 (findI l (blk s.data.toList))) ∧ Below w.heap.size w w' := by
  have hlen : l.length = n0 ∧ c0 ≤ maxLen ∧ n0 ≤ c0 := by
    obtain ⟨s0', n0', c0', e1, e2, e3, e4, _⟩ := hl.get
    cases e1
    rw [bcells_len] at e2
    exact ⟨by omega, e4, e3⟩
  obtain ⟨rfl, hc0, hc1⟩ := hlen
  unfold maxLen at hc0
  have HLS := Lib.hid hl
  clear hl
  have hwl := ws_bd s.data.toList
  obtain ⟨hw0, hw1⟩ := hwl
  have hsl : s.data.toList.length = s.size := by simp
  have hx : blk s.data.toList = ⟨s.size, ws s.data.toList, csum s.data.toList⟩ := by rw [blk_is, hsl]
  rw [hx]
  clear hx hsl
  go_enter Tryz.func153, Tryz.ntmps153
  go_wp2_with (go_at_call 187; refine (weakSum_any _ _ (by omega)).mono ?_; rintro e w' ⟨rfl, rfl⟩)
  go_loopw [12, 6, 7] (fun i _ _ wr => ∃ k : Nat, i = .int .i64 k ∧ k ≤ l.length ∧ findI l ⟨s.size, ws s.data.toList, csum s.data.toList⟩ = findB (l.drop k) ⟨s.size, ws s.data.toList, csum s.data.toList⟩ k ∧ Below w.heap.size w wr) (fun i _ _ _ => l.length - (intOf i).toNat)
  case atStart => exact ⟨0, rfl, by omega, rfl, Below.refl _ _⟩
  case round =>
    obtain ⟨k, rfl, hk, hf, bel⟩ := hrel
    have HF := Lib.hid hf
    clear hf
    by_cases hlt : k < l.length
    · have hltI : (k : Int) < l.length := by omega
      obtain ⟨s0', n0', c0', e1, _, _, _, g1⟩ := (HLS.out.below bel).get
      cases e1
      obtain ⟨g2, g3, g4⟩ := bcells_get l k hlt
      obtain ⟨a, rfl, d0⟩ := g1 _ _ g2
      obtain ⟨a', e', d1⟩ := g1 _ _ g3
      cases e'
      obtain ⟨a', e', d2⟩ := g1 _ _ g4
      cases e'
      clear g1 g2 g3 g4
      have KK := Lib.hid (show k + 1 ≤ l.length by omega)
      have HIT := Lib.hid (findB_drop_hit l ⟨s.size, ws s.data.toList, csum s.data.toList⟩ k hlt)
      have MISS := Lib.hid (findB_drop_miss l ⟨s.size, ws s.data.toList, csum s.data.toList⟩ k hlt)
      have x1 : (0 : Int) ≤ k := by omega
      have x2 : (k : Int).toNat = k := by omega
      generalize l[k] = b at d0 d1 d2 HIT MISS
      obtain ⟨bn, bw, bS⟩ := b
      simp only [] at d0 d1 d2
      have d1 := cell_at d1
      have d2 := cell_at d2
      have SUM := Lib.hid (fun w => sum_any s w hs)
      have belA := (bel.alloc bel.size (.cells #[.int .i64 bn, .int .i64 bw, .int .u32 bS] 142))
      by_cases e0 : bn = s.size
      · subst e0
        by_cases e1 : bw = ws s.data.toList
        · subst e1
          by_cases e2 : bS = csum s.data.toList
          · subst e2
            go_wp2_with fail
            go_quiet ((go_at_call 121; first | exact quiet_left (SUM.out _) | exact quiet_add_left (SUM.out _)))
            go_wp2_with fail
            go_ret
            exact ⟨ret_int (by rw [HF.out, HIT.out (by simp)]), below_drewN belA _⟩
          · have hb : ((bS : Int) == ((csum s.data.toList : Nat) : Int)) = false := by simp; omega
            have M := Lib.hid (MISS.out (by intro h; cases h; exact e2 rfl))
            clear e2
            go_wp2_with fail
            go_quiet ((go_at_call 121; first | exact quiet_left (SUM.out _) | exact quiet_add_left (SUM.out _)))
            go_wp2_with fail
            go_roundw
            case rel => exact ⟨k + 1, by go_num, KK.out, by rw [HF.out, M.out], below_drewN belA _⟩
            case measure => simp [intOf]; omega
        · have hb : (bw == ws s.data.toList) = false := by simp [e1]
          have M := Lib.hid (MISS.out (by intro h; cases h; exact e1 rfl))
          clear e1
          go_wp2_with fail
          go_quiet (fail)
          go_wp2_with fail
          go_roundw
          case rel => exact ⟨k + 1, by go_num, KK.out, by rw [HF.out, M.out], below_drewN belA _⟩
          case measure => simp [intOf]; omega
      · have hb : (bn == (s.size : Int)) = false := by simp [e0]
        have M := Lib.hid (MISS.out (by intro h; cases h; exact e0 rfl))
        clear e0
        go_wp2_with fail
        go_quiet (fail)
        go_wp2_with fail
        go_roundw
        case rel => exact ⟨k + 1, by go_num, KK.out, by rw [HF.out, M.out], below_drewN belA _⟩
        case measure => simp [intOf]; omega
    · have hltI : ¬ (k : Int) < l.length := by omega
      have hend := Lib.hid (findB_end l ⟨s.size, ws s.data.toList, csum s.data.toList⟩ k (by omega))
      go_wp2_with fail
      go_ret
      exact ⟨ret_int (by rw [HF.out, hend.out]), bel⟩
end Go.Proofs.YtppkeophochgiaaGreatDoor
/- Contract of sign.Check. -/
namespace Go.Proofs.YtppkeophochgiaaGreatDoor
open Go.RowKit

set_option maxRecDepth 100000 in
set_option maxHeartbeats 3200000 in
theorem check_any (E : Nat → Addr) (s0 : Option Addr) (n0 c0 : Nat) (l : List Blk) (size : Int) (w : World) (hl : SliceIs w (.slice s0 n0 c0) 3 (bcells l)) (hB : Has E w 2) (hF : Has E w 8) :
    Calls Tryz.prog 152 #[.slice s0 n0 c0, .int .i64 size] w fun e w' => ∃ v, e = .returned v ∧ FErr E w' v (chk l size).1 (chk l size).2 ∧ Below w.heap.size w w' := by
  have hlen : l.length = n0 ∧ c0 ≤ maxLen ∧ n0 ≤ c0 := by
    obtain ⟨s0', n0', c0', e1, e2, e3, e4, _⟩ := hl.get
    cases e1
    rw [bcells_len] at e2
    exact ⟨by omega, e4, e3⟩
  obtain ⟨rfl, hc0, hc1⟩ := hlen
  unfold maxLen at hc0
  have HLS := Lib.hid hl
  have HB := Lib.hid hB
  have HFL := Lib.hid hF
  clear hl hF
  by_cases hs : 1 ≤ size ∧ size ≤ 64
  · have hchk := chk_yes (l := l) hs
    have HCH := Lib.hid hchk
    have HSW := Lib.hid (fun w => swell_yes size w hs)
    obtain ⟨hs1, hs2⟩ := hs
    clear hchk hB
    go_enter Tryz.func152, Tryz.ntmps152
    go_wp2_with (go_at_call 150; refine (HSW.out _).mono ?_; rintro e w' ⟨rfl, rfl⟩)
    go_loopw [15, 5, 6, 7, 8] (fun i all _ _ _ wr => ∃ (k : Nat) (a : Int), i = .int .i64 k ∧ k ≤ l.length ∧ all = .int .i64 a ∧ 0 ≤ a ∧ a ≤ 4000 ∧ chk l size = chkA size (l.drop k) k a ∧ Below w.heap.size w wr) (fun i _ _ _ _ _ => l.length - (intOf i).toNat)
    case atStart => exact ⟨0, 0, rfl, by omega, rfl, by omega, by omega, HCH.out, Below.refl _ _⟩
    case round =>
      obtain ⟨k, a, rfl, hk, rfl, ha0, ha1, hf, bel⟩ := hrel
      have HF := Lib.hid hf
      clear hf
      by_cases hlt : k < l.length
      · have hltI : (k : Int) < l.length := by omega
        obtain ⟨s0', n0', c0', e1, _, _, _, g1⟩ := (HLS.out.below bel).get
        cases e1
        obtain ⟨g2, g3, g4⟩ := bcells_get l k hlt
        obtain ⟨ad, rfl, d0⟩ := g1 _ _ g2
        obtain ⟨a', e', d1⟩ := g1 _ _ g3
        cases e'
        obtain ⟨a', e', d2⟩ := g1 _ _ g4
        cases e'
        clear g1 g2 g3 g4
        have KK := Lib.hid (show k + 1 ≤ l.length by omega)
        have BAD := Lib.hid (fun hb => HF.out.trans (chkA_bad (size := size) (all := a) hlt hb))
        have FULL := Lib.hid (fun hb hf => HF.out.trans (chkA_full (size := size) (all := a) hlt hb hf))
        have NEXT := Lib.hid (fun hb hf => HF.out.trans (chkA_next (size := size) (all := a) hlt hb hf))
        have x1 : (0 : Int) ≤ k := by omega
        have x2 : (k : Int).toNat = k := by omega
        have c2 : wr.cell? ⟨0, 0, none⟩ = some (errv (E 2)) := HB.out.below bel
        have belA := fun o => bel.alloc bel.size o
        have c8 : wr.cell? ⟨7, 0, none⟩ = some (errv (E 8)) := HFL.out.below bel
        have z2 : 0 < wr.heap.size := World.block_lt_of_cell? wr _ c2
        have z8 : 7 < wr.heap.size := World.block_lt_of_cell? wr _ c8
        unfold errv at c2 c8
        generalize l[k] = b at d0 d1 d2 BAD FULL NEXT
        obtain ⟨bn, bw, bS⟩ := b
        have d1 := cell_at d1
        have d2 := cell_at d2
        simp only [] at d0 d1 d2
        have CASES : bn < 1 ∨ (¬ bn < 1 ∧ size < bn) ∨ (¬ bn < 1 ∧ ¬ size < bn ∧ bn < size ∧ l.length ≠ k + 1) ∨ ((¬ bn < 1 ∧ ¬ size < bn) ∧ (¬ bn < size ∨ bn < size ∧ l.length = k + 1)) := by omega
        rcases CASES with b1 | ⟨b1, b2⟩ | ⟨b1, b2, b3, b4⟩ | ⟨⟨b1, b2⟩, b3⟩
        · have hb := Lib.hid (BAD.out (.inl b1))
          clear BAD FULL NEXT
          go_wp2_with fail
          go_ret
          exact ⟨_, rfl, FErr.new E _ _ (by decide) _ _ (by simp) _ hb.out, (belA _).alloc (belA _).size _⟩
        · have hb := Lib.hid (BAD.out (.inr (.inl b2)))
          clear BAD FULL NEXT
          go_wp2_with fail
          go_ret
          exact ⟨_, rfl, FErr.new E _ _ (by decide) _ _ (by simp) _ hb.out, (belA _).alloc (belA _).size _⟩
        · have hb := Lib.hid (BAD.out (.inr (.inr (.inl ⟨b3, by simpa using b4⟩))))
          have hlb : ((k : Int) == (l.length : Int) - 1) = false := by simp; omega
          clear BAD FULL NEXT b4
          go_wp2_with fail
          go_ret
          exact ⟨_, rfl, FErr.new E _ _ (by decide) _ _ (by simp) _ hb.out, (belA _).alloc (belA _).size _⟩
        · have b3' : ¬ bn < size ∨ bn < size ∧ ((k : Int) == (l.length : Int) - 1) = true := by
            rcases b3 with h | ⟨h, h'⟩
            · exact .inl h
            · exact .inr ⟨h, by simp; omega⟩
          have GOODB : Hid (0 ≤ bw → bw < 4294967296 → ¬ badB ⟨bn, bw, bS⟩ size (decide (l.length = k + 1))) := fun h1 h2 h => by
            unfold badB at h
            simp only [decide_eq_false_iff_not] at h
            omega
          clear b3
          by_cases b5 : bw < 0
          · have hb := Lib.hid (BAD.out (.inr (.inr (.inr (.inl b5)))))
            clear BAD FULL NEXT GOODB
            rcases b3' with b3 | ⟨b3, b4⟩
            all_goals
              go_wp2_with fail
              go_ret
              exact ⟨_, rfl, FErr.new E _ _ (by decide) _ _ (by simp) _ hb.out, (belA _).alloc (belA _).size _⟩
          · by_cases b6 : 4294967296 ≤ bw
            · have hb := Lib.hid (BAD.out (.inr (.inr (.inr (.inr b6)))))
              clear BAD FULL NEXT GOODB
              rcases b3' with b3 | ⟨b3, b4⟩
              all_goals
                go_wp2_with fail
                go_ret
                exact ⟨_, rfl, FErr.new E _ _ (by decide) _ _ (by simp) _ hb.out, (belA _).alloc (belA _).size _⟩
            · have b6' : ¬ bw ≥ 4294967296 := b6
              have HG := Lib.hid (GOODB.out (by omega) (by omega))
              clear GOODB BAD
              by_cases b7 : 4000 < a + bn
              · have hb := Lib.hid (FULL.out HG.out b7)
                clear FULL NEXT
                rcases b3' with b3 | ⟨b3, b4⟩
                all_goals
                  go_wp2_with fail
                  go_ret
                  exact ⟨_, rfl, FErr.new E _ _ (by decide) _ _ (by simp) _ hb.out, (belA _).alloc (belA _).size _⟩
              · have hb := Lib.hid (NEXT.out HG.out b7)
                clear FULL NEXT
                rcases b3' with b3 | ⟨b3, b4⟩
                all_goals
                  go_wp2_with fail
                  go_roundw
                  case rel => exact ⟨k + 1, _, by go_num, KK.out, rfl, by omega, by omega, hb.out, belA _⟩
                  case measure => simp [intOf]; omega
      · have hltI : ¬ (k : Int) < l.length := by omega
        have hb := Lib.hid (HF.out.trans (chkA_end (size := size) (all := a) (by omega : l.length ≤ k)))
        go_wp2_with fail
        go_ret
        exact ⟨_, rfl, by rw [hb.out]; exact FErr.nil E _, bel⟩
  · have c2 : w.cell? ⟨0, 0, none⟩ = some (errv (E 2)) := hB
    have hchk := chk_no (l := l) hs
    have HCH := Lib.hid hchk
    have HSW := Lib.hid (fun w => swell_no size w hs)
    clear hs hchk hB
    go_enter Tryz.func152, Tryz.ntmps152
    go_wp2_with (go_at_call 150; refine (HSW.out _).mono ?_; rintro e w' ⟨rfl, rfl⟩)
    go_ret
    exact ⟨_, rfl, by rw [HCH.out]; exact FErr.bare E w (by decide), Below.refl _ _⟩
end Go.Proofs.YtppkeophochgiaaGreatDoor
/- Contract of sign.Text. -/
namespace Go.Proofs.YtppkeophochgiaaGreatDoor
open Go.RowKit

def bText (l : List Blk) : List UInt8 := l.flatMap fun b => num b.N.toNat ++ num b.W.toNat ++ num b.S
theorem bText_nil : bText [] = [] := rfl
theorem bText_append (a b : List Blk) : bText (a ++ b) = bText a ++ bText b := by simp [bText]
theorem bText_one (b : Blk) : bText [b] = num b.N.toNat ++ num b.W.toNat ++ num b.S := by simp [bText]
theorem bText_cons (b : Blk) (l : List Blk) : bText (b :: l) = num b.N.toNat ++ num b.W.toNat ++ num b.S ++ bText l := by simp [bText]
theorem bText_len (l : List Blk) : (bText l).length ≤ 21 * l.length := by
  induction l with
  | nil => simp [bText]
  | cons b l ih =>
    rw [bText_cons]
    have := num_len b.N.toNat
    have := num_len b.W.toNat
    have := num_len b.S
    simp only [List.length_append, List.length_cons]
    omega
def sText (l : List Blk) (size : Int) : List UInt8 := num size.toNat ++ num l.length ++ bText l
theorem sText_is (l : List Blk) (size : Int) : sText l size = num size.toNat ++ num l.length ++ bText l := rfl
attribute [irreducible] bText sText
set_option maxRecDepth 100000 in
set_option maxHeartbeats 3200000 in
theorem stext_yes (E : Nat → Addr) (s0 : Option Addr) (n0 c0 : Nat) (l : List Blk) (size : Int) (w : World) (hl : SliceIs w (.slice s0 n0 c0) 3 (bcells l)) (hS : ∀ b ∈ l, b.S < 4294967296) (hB : Has E w 2) (hF : Has E w 8)
    (hok : (chk l size).1 = 0) :
    Calls Tryz.prog 246 #[.slice s0 n0 c0, .int .i64 size] w fun e w' => e = .returned (.tuple #[.string (bs (sText l size)), .nilIface]) ∧ Below w.heap.size w w' := by
  have CH := check_any E s0 n0 c0 l size w hl hB hF
  rw [hok] at CH
  obtain ⟨k1, k2, k3, k4⟩ := chk_ok hok
  have hlen : l.length = n0 ∧ c0 ≤ maxLen ∧ n0 ≤ c0 := by
    obtain ⟨s0', n0', c0', e1, e2, e3, e4, _⟩ := hl.get
    cases e1
    rw [bcells_len] at e2
    exact ⟨by omega, e4, e3⟩
  obtain ⟨rfl, hc0, hc1⟩ := hlen
  unfold maxLen at hc0
  have HLS := Lib.hid hl
  have HB := Lib.hid hB
  have HCH := Lib.hid CH
  have HEA := Lib.hid k4
  have HSS := Lib.hid hS
  have hst := sText_is l size
  have HST := Lib.hid hst
  have hfin := doneL_zero
  have HFIN := Lib.hid hfin
  have HEZ := Lib.hid (ev_zero E)
  clear hst hfin hl hB hF CH k4 hS hok
  go_enter Tryz.func246, Tryz.ntmps246
  go_wp2_with fail
  refine HCH.out.mono ?_
  rintro e w1 ⟨v, rfl, fe, b1⟩
  rw [fe.zero]
  clear fe
  go_wp2_with fail
  have W0 := WAt.new E w1
  have bA := b1.alloc b1.size (.cells #[.slice none 0 0, .nilIface] 312)
  have hb : w.heap.size ≤ w1.heap.size := b1.size
  generalize w1.alloc (.cells #[.slice none 0 0, .nilIface] 312) = w2 at W0 bA ⊢
  generalize w1.heap.size = b at W0 hb ⊢
  clear b1
  refine (wnum_ok E b _ _ _ (by simp) W0 (HB.out.below bA) (by omega) (by omega)).mono ?_
  rintro e w3 ⟨rfl, W3, K3⟩
  have b3 := K3.old bA hb W0.lt
  clear K3 bA W0
  go_wp2_with fail
  refine (wnum_ok E b _ _ _ (by have := num_len size.toNat; simp; omega) W3 (HB.out.below b3) (by omega) (by omega)).mono ?_
  rintro e w4 ⟨rfl, W4, K4⟩
  have b4 := K4.old b3 hb W3.lt
  clear K4 b3 W3
  go_wp2_with fail
  go_loopw [28, 9] (fun i _ wr => ∃ k : Nat, i = .int .i64 k ∧ k ≤ l.length ∧ WAt E wr b (num size.toNat ++ num l.length ++ bText (l.take k)) 0 ∧ Below w.heap.size w wr) (fun i _ _ => l.length - (intOf i).toNat)
  case atStart => exact ⟨0, rfl, by omega, by simpa [bText_nil] using W4, b4⟩
  case round =>
    clear W4 b4
    obtain ⟨k, rfl, hk, W, bel⟩ := hrel
    by_cases hlt : k < l.length
    · have hltI : (k : Int) < l.length := by omega
      obtain ⟨s0', n0', c0', e1, _, _, _, g1⟩ := (HLS.out.below bel).get
      cases e1
      obtain ⟨g2, g3, g4⟩ := bcells_get l k hlt
      obtain ⟨ad, rfl, d0⟩ := g1 _ _ g2
      obtain ⟨a', e', d1⟩ := g1 _ _ g3
      cases e'
      obtain ⟨a', e', d2⟩ := g1 _ _ g4
      cases e'
      clear g1 g2 g3 g4
      have KK := Lib.hid (show k + 1 ≤ l.length by omega)
      have x1 : (0 : Int) ≤ k := by omega
      have x2 : (k : Int).toNat = k := by omega
      have hea := HEA.out _ (List.getElem_mem hlt)
      have hs := HSS.out _ (List.getElem_mem hlt)
      have htk := Lib.hid (List.take_succ_eq_append_getElem hlt)
      have hlen := bText_len (l.take k)
      have hlen2 : (l.take k).length ≤ 4000 := by simp; omega
      have hn1 := num_len size.toNat
      have hn2 := num_len l.length
      generalize l[k] = bk at d0 d1 d2 hea hs htk
      obtain ⟨bn, bw, bS⟩ := bk
      have d1 := cell_at d1
      have d2 := cell_at d2
      simp only [] at d0 d1 d2 hea hs
      obtain ⟨y1, y2, y3, y4⟩ := hea
      have hn3 := num_len bn.toNat
      have hn4 := num_len bw.toNat
      have hgb : b < wr.heap.size := W.lt
      have W1 := W.below (below_alloc' wr (.cells #[.int .i64 bn, .int .i64 bw, .int .u32 bS] 142))
      have bel1 := bel.alloc bel.size (.cells #[.int .i64 bn, .int .i64 bw, .int .u32 bS] 142)
      have G1 : (wr.alloc (.cells #[.int .i64 bn, .int .i64 bw, .int .u32 bS] 142)).heap[wr.heap.size]? = some (.cells #[.int .i64 bn, .int .i64 bw, .int .u32 bS] 142 (0, 0)) := heap_alloc_new _ _
      go_wp2_with fail
      generalize wr.alloc (.cells #[.int .i64 bn, .int .i64 bw, .int .u32 bS] 142) = v1 at W1 bel1 G1 ⊢
      generalize wr.heap.size = g at G1 hgb ⊢
      clear W bel
      refine (wnum_ok E b _ _ _ (by simp only [List.length_append]; omega) W1 (HB.out.below bel1) (by omega) (by omega)).mono ?_
      rintro e v2 ⟨rfl, W2, K2⟩
      have bel2 := K2.old bel1 hb W1.lt
      have G2 := K2.obj G1 (by omega) (by decide)
      clear K2 bel1 W1 G1
      have f1 : v2.cell? ⟨g, 1, none⟩ = some (.int .i64 bw) := by simp [World.cell?, G2]
      go_wp2_with fail
      refine (wnum_ok E b _ _ _ (by simp only [List.length_append]; omega) W2 (HB.out.below bel2) (by omega) (by omega)).mono ?_
      rintro e v3 ⟨rfl, W3, K3⟩
      have bel3 := K3.old bel2 hb W2.lt
      have G3 := K3.obj G2 (by omega) (by decide)
      clear K3 bel2 W2 G2
      have f2 : v3.cell? ⟨g, 2, none⟩ = some (.int .u32 bS) := by simp [World.cell?, G3]
      go_wp2_with fail
      refine (wnum_ok E b _ _ _ (by simp only [List.length_append]; omega) W3 (HB.out.below bel3) (by omega) (by omega)).mono ?_
      rintro e v4 ⟨rfl, W4, K4⟩
      have bel4 := K4.old bel3 hb W3.lt
      clear K4 bel3 W3 G3
      go_wp2_with fail
      go_roundw
      case rel => exact ⟨k + 1, by go_num, KK.out, by rw [htk.out, bText_append, bText_one]; simpa [List.append_assoc] using W4, bel4⟩
      case measure => simp [intOf]; omega
    · have hltI : ¬ (k : Int) < l.length := by omega
      have htk : l.take k = l := List.take_of_length_le (by omega)
      rw [htk, ← HST.out] at W
      have D := wdone_any E b _ 0 wr (fun _ => by rw [HST.out]; have := num_pos size.toNat; simp; omega) W
      rw [HFIN.out, HEZ.out] at D
      have HD := Lib.hid D
      clear D htk W
      go_wp2_with fail
      refine HD.out.mono ?_
      rintro e w9 ⟨rfl, b9⟩
      go_wp2_with fail
      go_ret2
      exact ⟨rfl, below_trans' bel (b9.below _)⟩

end Go.Proofs.YtppkeophochgiaaGreatDoor
