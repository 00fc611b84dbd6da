/- Contract of frame.Encode. -/
import Derived.Test.YtkojhnmchbhbbaaDoorFrame
namespace Go.Proofs.YtkojhnmchbhbbaaDoor
open Go.RowKit
set_option linter.unusedVariables false

theorem bsadd (a b : List UInt8) : bs a ++ bs b = bs (a ++ b) := eq_bs (by simp)
def encL (f : PFr) : List UInt8 := if frC f = 0 then frT f else []
theorem encL_yes {f : PFr} (h : frC f = 0) : encL f = frT f := by simp [encL, h]
theorem encL_no {f : PFr} (h : frC f ≠ 0) : encL f = [] := by simp [encL, h]
attribute [irreducible] encL
attribute [local irreducible] frB frT frC lowL
theorem frB_eq (f : PFr) : frB f = [f.k] ++ (num f.e.toNat ++ num f.q.toNat ++ (num f.d.length ++ f.d)) := by rw [frB_is]; rfl

set_option maxRecDepth 100000 in
set_option maxHeartbeats 3200000 in
theorem fenc_any (E : Nat → Addr) (f : PFr) (w : World) (h2 : Has E w 2) (h4 : Has E w 4) : Calls Tryd.prog 21 #[f.val] w fun e w' => e = .returned (.tuple #[.string (bs (encL f)), ev E (frC f)]) ∧ Below w.heap.size w w' := by
  have CH := Lib.hid (fun (w' : World) (b : Below w.heap.size w w') => fcheck_any E f w' (h2.below b) (h4.below b))
  have HB := Lib.hid h2
  have HEZ := Lib.hid (ev_zero E)
  have HEV := Lib.hid (ev_pos E (c := frC f))
  have YES := Lib.hid (encL_yes (f := f))
  have NO := Lib.hid (encL_no (f := f))
  have ZERO := Lib.hid (frC_zero (f := f))
  have HBE := Lib.hid (frB_eq f)
  have HTE := Lib.hid (frT_is f)
  clear h2 h4
  rw [PFr.val_is] at CH ⊢
  by_cases hc : frC f = 0
  · obtain ⟨hk, ⟨he1, he2⟩, ⟨hq1, hq2⟩, hd⟩ := ZERO.out hc
    rw [YES.out hc, hc, HEZ.out]
    rw [hc, HEZ.out] at CH
    obtain ⟨k, e, q, d⟩ := f
    simp only [] at CH HBE HTE hk he1 he2 hq1 hq2 hd ⊢
    have HF2 := Lib.hid HTE.out
    generalize frB ⟨k, e, q, d⟩ = B at *
    generalize frT ⟨k, e, q, d⟩ = T at *
    have hk256 := k.toNat_lt
    have n1 := num_len e.toNat
    have n2 := num_len q.toNat
    have n3 := num_len d.length
    obtain ⟨X, hX⟩ : ∃ X, X = num e.toNat ++ num q.toNat ++ (num d.length ++ d) := ⟨_, rfl⟩
    have HXP : Hid (0 < X.length) := by show _ < _; rw [hX]; have := num_pos e.toNat; simp only [List.length_append]; omega
    have hXl : X.length ≤ 20021 := by rw [hX]; simp only [List.length_append]; omega
    have HX := Lib.hid hX
    rw [← hX] at HBE
    have hBl : B.length ≤ 20022 := by rw [HBE.out]; simp; omega
    have hkB : bs [k] ++ bs X = bs B := by rw [HBE.out]; exact bsadd _ _
    have SU := Lib.hid (fun w' => sum_any (bs B) w' (by rw [bs_size]; omega))
    rw [bs_list] at SU
    have LW := Lib.hid (fun w' => low_any (csum B) w' (csum_lt B))
    have hTB : bs B ++ bs (lowL (csum B)) = bs T := by rw [HTE.out]; exact bsadd _ _
    have hll := lowL_len (csum B)
    have hcat : ¬ 9223372036854775807 < B.length + (lowL (csum B)).length := by omega
    have hcat2 : ¬ 9223372036854775807 < [k].length + X.length := by simp; omega
    have CV := Lib.hid (fun (w' : World) (b : Nat) h => conv_one (P := Tryd.prog) w' 78 9 5 Tryd.underlying78 Tryd.underlying5 Tryd.underlying9 b 1 k h)
    have HK1 := Lib.hid (show (⟨#[k]⟩ : ByteArray) = bs [k] by unfold bs; rfl)
    simp only [HK1.out] at CV
    generalize lowL (csum B) = LO at *
    clear YES NO ZERO HEV hc HF2 hX
    have b0 := below_alloc' w (.cells #[.int .u8 k.toNat, .int .i64 e, .int .i64 q, .string (bs d)] 50)
    have G0 : (w.alloc (.cells #[.int .u8 k.toNat, .int .i64 e, .int .i64 q, .string (bs d)] 50)).heap[w.heap.size]? = some (.cells #[.int .u8 k.toNat, .int .i64 e, .int .i64 q, .string (bs d)] 50 (0, 0)) := heap_alloc_new _ _
    go_enter Tryd.func21, Tryd.ntmps21
    go_wp2_with fail
    refine (CH.out _ b0).mono ?_
    rintro e' w1 ⟨rfl, b1⟩
    have G1 := (b1.block w.heap.size (lt_of_block G0)).trans G0
    have b01 := below_trans' b0 b1
    have hgb : w.heap.size < w1.heap.size := lt_of_block G1
    have HW0 := Lib.hid (Nat.le_refl w.heap.size)
    have f1' : w1.cell? ⟨w.heap.size, 1, none⟩ = some (.int .i64 e) := by simp [World.cell?, G1]
    clear b0 b1 G0
    go_wp2_with fail
    clear f1'
    have W2 := WAt.new E w1
    have b02 := b01.alloc b01.size (.cells #[.slice none 0 0, .nilIface] 95)
    have G2 := ((below_alloc' w1 (.cells #[.slice none 0 0, .nilIface] 95)).block w.heap.size hgb).trans G1
    have hb : w.heap.size ≤ w1.heap.size := b01.size
    generalize w1.alloc (.cells #[.slice none 0 0, .nilIface] 95) = w2 at *
    have f1 : w2.cell? ⟨w.heap.size, 1, none⟩ = some (.int .i64 e) := by simp [World.cell?, G2]
    generalize w1.heap.size = b at *
    clear b01 G1
    refine (wnum_ok E b _ _ _ (by simp) W2 (HB.out.below b02) (by omega) (by omega)).mono ?_
    rintro e' w3 ⟨rfl, W3, K3⟩
    have b03 := K3.old b02 hb W2.lt
    have G3 := K3.obj G2 (by omega) (by decide)
    rw [List.nil_append] at W3
    clear b02 K3 W2 G2 f1
    have f2 : w3.cell? ⟨w.heap.size, 2, none⟩ = some (.int .i64 q) := by simp [World.cell?, G3]
    go_wp2_with fail
    refine (wnum_ok E b _ _ _ (by omega) W3 (HB.out.below b03) (by omega) (by omega)).mono ?_
    rintro e' w4 ⟨rfl, W4, K4⟩
    have b04 := K4.old b03 hb W3.lt
    have G4 := K4.obj G3 (by omega) (by decide)
    clear b03 K4 W3 G3 f2
    have f3 : w4.cell? ⟨w.heap.size, 3, none⟩ = some (.string (bs d)) := by simp [World.cell?, G4]
    go_wp2_with fail
    refine (wtext_ok E b _ _ _ (by simp only [List.length_append]; omega) W4 (HB.out.below b04) (by rw [bs_size]; omega)).mono ?_
    rintro e' w5 ⟨rfl, W5, K5⟩
    have b05 := K5.old b04 hb W4.lt
    have G5 := K5.obj G4 (by omega) (by decide)
    rw [bs_size, bs_list, ← HX.out] at W5
    clear b04 K5 W4 G4 f3
    go_wp2_with fail
    have DN := wdone_any E b X 0 w5 (fun _ => HXP.out) W5
    rw [doneL_zero, HEZ.out] at DN
    refine DN.mono ?_
    rintro e' w6 ⟨rfl, b6⟩
    have b6 := b6.below w5.heap.size
    have b06 := below_trans' b05 b6
    have G6 := (b6.block w.heap.size (lt_of_block G5)).trans G5
    have f0 : w6.cell? ⟨w.heap.size, 0, none⟩ = some (.int .u8 k.toNat) := by simp [World.cell?, G6]
    have hcv := CV.out (w6.alloc (.cells #[.int .u8 k.toNat] 5)) w6.heap.size (by simp)
    clear b05 b6 G5 DN W5 G6
    go_wp2_with (go_at_call 45; refine (SU.out _).mono ?_; rintro e' w7 ⟨rfl, rfl⟩)
    refine (LW.out _).mono ?_
    rintro e' w8 ⟨rfl, b8⟩
    go_wp2_with fail
    go_ret2
    exact ⟨ret2 (by first | rfl | (rw [← hTB]; done) | (rw [hTB]; done)) (by first | rfl | trivial), below_trans' (b06.alloc b06.size _) b8⟩
  · rw [NO.out hc, HEV.out hc]
    rw [HEV.out hc] at CH
    have b0 := below_alloc' w (.cells #[.int .u8 f.k.toNat, .int .i64 f.e, .int .i64 f.q, .string (bs f.d)] 50)
    clear YES NO ZERO HEV HBE HTE hc
    go_enter Tryd.func21, Tryd.ntmps21
    go_wp2_with fail
    refine (CH.out _ b0).mono ?_
    rintro e' w1 ⟨rfl, b1⟩
    go_wp2_with fail
    go_ret2
    exact ⟨ret2 (by rw [bs_nil]; rfl) rfl, below_trans' b0 b1⟩
end Go.Proofs.YtkojhnmchbhbbaaDoor
