/- Contracts of delta.Make and of the document's DeltaOf, in every case. -/
import Derived.Test.YtkhjhbgoccljfaaDoorRefDelta
import Derived.Test.YtkhjhbgoccljfaaDoorMakeNo
import Derived.Deep.DeepCutAuto
namespace Go.Proofs.YtkhjhbgoccljfaaDoor
open Go.RowKit
set_option linter.unusedVariables false

/-- what a delta comes to: the ops, the error's number and place -/
def mkR (l : List Blk) (size : Int) (S : List UInt8) : List POp × Nat × Int :=
  if (chk l size).1 ≠ 0 then ([], chk l size) else if 4000 < S.length then ([], (2, -1)) else (mkOps l size.toNat S, (0, -1))
theorem mkR_no {l : List Blk} {size : Int} {S : List UInt8} (h : (chk l size).1 ≠ 0) : mkR l size S = ([], chk l size) := by unfold mkR; rw [if_pos h]
theorem mkR_long {l : List Blk} {size : Int} {S : List UInt8} (h : (chk l size).1 = 0) (h2 : 4000 < S.length) : mkR l size S = ([], (2, -1)) := by unfold mkR; rw [if_neg (by simp [h]), if_pos h2]
theorem mkR_yes {l : List Blk} {size : Int} {S : List UInt8} (h : (chk l size).1 = 0) (h2 : ¬ 4000 < S.length) : mkR l size S = (mkOps l size.toNat S, (0, -1)) := by unfold mkR; rw [if_neg (by simp [h]), if_neg h2]
theorem mkR_code (l : List Blk) (size : Int) (S : List UInt8) : (mkR l size S).2.1 ≤ 12 := by
  by_cases h : (chk l size).1 = 0
  · by_cases h2 : 4000 < S.length
    · rw [mkR_long h h2]; show 2 ≤ 12; omega
    · rw [mkR_yes h h2]; show 0 ≤ 12; omega
  · rw [mkR_no h]; have := chk_code l size; show (chk l size).1 ≤ 12; omega

theorem make_all (E : Nat → Addr) (s0 : Option Addr) (n0 c0 : Nat) (l : List Blk) (size : Int) (S : List UInt8) (w : World) (hl : SliceIs w (.slice s0 n0 c0) 3 (bcells l)) (hB : Has E w 2) (hF : Has E w 8) :
    Calls Tryd.prog 31 #[.slice s0 n0 c0, .int .i64 size, .string (bs S)] w fun e w' => ∃ v u, e = .returned (.tuple #[v, u]) ∧ FErr E w' u (mkR l size S).2.1 (mkR l size S).2.2 ∧
      w'.ownsRow w.heap.size 67 4 v (mkR l size S).1.length (ocells (mkR l size S).1) ∧ Below w.heap.size w w' := by
  by_cases h : (chk l size).1 = 0
  · by_cases h2 : 4000 < S.length
    · refine (make_long E s0 n0 c0 l size (bs S) w hl hB hF h (by rw [bs_size]; exact h2)).mono ?_
      rintro e w' ⟨rfl, b⟩
      rw [mkR_long h h2]
      exact ⟨_, _, rfl, FErr.ev E w' 2, by rw [ocells_nil]; exact World.ownsRow_nil _ _ _ _, b⟩
    · refine (make_any E s0 n0 c0 l size (bs S) w hl hB hF h (by rw [bs_size]; omega)).mono ?_
      rintro e w' ⟨v, rfl, hown, b⟩
      rw [bs_list] at hown
      rw [mkR_yes h h2]
      exact ⟨_, _, rfl, FErr.nil E w', hown, b⟩
  · refine (make_no E s0 n0 c0 l size (bs S) w hl hB hF h).mono ?_
    rintro e w' ⟨v, rfl, fe, b⟩
    rw [mkR_no h]
    exact ⟨_, _, rfl, fe, by rw [ocells_nil]; exact World.ownsRow_nil _ _ _ _, b⟩

set_option maxRecDepth 100000 in
set_option maxHeartbeats 6400000 in
theorem rdelta_no (s0 : Option Addr) (n0 c0 : Nat) (l : List Blk) (size : Int) (S : List UInt8) (w : World) (hl : SliceIs w (.slice s0 n0 c0) 3 (bcells l)) (hck : (chk l size).1 ≠ 0) :
    Calls Tryd.prog 32 #[.slice s0 n0 c0, .int .i64 size, .string (bs S)] w fun e w' => e = .returned (.tuple #[.slice none 0 0, rfv (chk l size)]) ∧ Below w.heap.size w w' := by
  have HB0 := Lib.hid (below_one w (.cells #[.int .i64 0, .int .i64 0] 32))
  have hfz : (w.alloc (.cells #[.int .i64 0, .int .i64 0] 32)).heap[w.heap.size]? = some (.cells #[.int .i64 0, .int .i64 0] 32 (0, 0)) := heap_alloc_new _ _
  have HZ := Lib.hid hfz
  have RS := rsf_any s0 n0 c0 l size _ (hl.below HB0.out)
  have MK := rfv_mk (chk l size)
  generalize chk l size = ck at *
  obtain ⟨code, at'⟩ := ck
  rw [rfv_is] at RS
  simp only [] at RS hck
  have hcI : (0 : Int) < code := by omega
  have HMK := Lib.hid (MK code at' rfl)
  have HRS := Lib.hid RS
  clear hl hfz RS hck MK
  go_enter Tryd.func32, Tryd.ntmps32
  go_wp2_with fail
  refine HRS.out.mono ?_
  rintro e wf ⟨rfl, bf⟩
  have hzf := (bf.block w.heap.size (lt_of_block HZ.out)).trans HZ.out
  have bf0 := below_trans' HB0.out bf
  have bg := below_one wf (.cells #[.int .i64 (code : Int), .int .i64 at'] 32)
  have hzg := (bg.block w.heap.size (lt_of_block hzf)).trans hzf
  have hgg : (wf.alloc (.cells #[.int .i64 (code : Int), .int .i64 at'] 32)).heap[wf.heap.size]? = some (.cells #[.int .i64 (code : Int), .int .i64 at'] 32 (0, 0)) := heap_alloc_new _ _
  have bg0 := below_trans' bf0 bg
  go_upto_region 3 with fail
  generalize wf.heap.size = gb at *
  generalize wf.alloc (.cells #[.int .i64 (code : Int), .int .i64 at'] 32) = wg at *
  have c0 : wg.cell? ⟨gb, 0, none⟩ = some (.int .i64 (code : Int)) := by simp [World.cell?, hgg]
  have c1 : wg.cell? ⟨gb, 1, none⟩ = some (.int .i64 at') := by simp [World.cell?, hgg]
  have f0 : wg.frozen? ⟨w.heap.size, 0, none⟩ = false := by simp [World.frozen?, hzg]
  have f1 : wg.frozen? ⟨w.heap.size, 1, none⟩ = false := by simp [World.frozen?, hzg]
  have e0 : wg.cell? ⟨w.heap.size, 0, none⟩ = some (.int .i64 0) := by simp [World.cell?, hzg]
  have e1 : wg.cell? ⟨w.heap.size, 1, none⟩ = some (.int .i64 0) := by simp [World.cell?, hzg]
  obtain ⟨r0, r1⟩ := set2 hzg (.int .i64 code) (.int .i64 at')
  have bb := (bg0.setCell (p := ⟨w.heap.size, 0, none⟩) (Nat.le_refl _) (.int .i64 code)).setCell (p := ⟨w.heap.size, 1, none⟩) (Nat.le_refl _) (.int .i64 at')
  go_region_with (fail)
  go_wp2_with fail
  generalize (wg.setCell ⟨w.heap.size, 0, none⟩ (.int .i64 (code : Int))).setCell ⟨w.heap.size, 1, none⟩ (.int .i64 at') = w2 at r0 r1 bb ⊢
  (try simp only [Exit.inBlock, Exit.then])
  refine bodyPost_ret (by simp [results, Tryd.results32, go_sem, r0, r1]; try rfl) rfl ?_
  exact ⟨by rw [← HMK.out], bb.drew⟩

set_option maxRecDepth 100000 in
set_option maxHeartbeats 6400000 in
theorem rdelta_long (s0 : Option Addr) (n0 c0 : Nat) (l : List Blk) (size : Int) (S : List UInt8) (w : World) (hl : SliceIs w (.slice s0 n0 c0) 3 (bcells l)) (hck : (chk l size).1 = 0) (hS : 4000 < S.length) :
    Calls Tryd.prog 32 #[.slice s0 n0 c0, .int .i64 size, .string (bs S)] w fun e w' => e = .returned (.tuple #[.slice none 0 0, .agg #[.int .i64 2, .int .i64 (-1)]]) ∧ Below w.heap.size w w' := by
  have HB0 := Lib.hid (below_one w (.cells #[.int .i64 0, .int .i64 0] 32))
  have hfz : (w.alloc (.cells #[.int .i64 0, .int .i64 0] 32)).heap[w.heap.size]? = some (.cells #[.int .i64 0, .int .i64 0] 32 (0, 0)) := heap_alloc_new _ _
  have HZ := Lib.hid hfz
  have RS := rsf_any s0 n0 c0 l size _ (hl.below HB0.out)
  rw [rfv_is, chk_pair' hck] at RS
  simp only [] at RS
  rw [show ((0 : Nat) : Int) = 0 from rfl] at RS
  have hSI : (4000 : Int) < S.length := by omega
  have HRS := Lib.hid RS
  clear hl hfz RS hck hS
  go_enter Tryd.func32, Tryd.ntmps32
  go_wp2_with fail
  refine HRS.out.mono ?_
  rintro e wf ⟨rfl, bf⟩
  have hzf := (bf.block w.heap.size (lt_of_block HZ.out)).trans HZ.out
  have bf0 := below_trans' HB0.out bf
  have bg := below_one wf (.cells #[.int .i64 (0 : Int), .int .i64 (-1)] 32)
  have hzg := (bg.block w.heap.size (lt_of_block hzf)).trans hzf
  have bg0 := below_trans' bf0 bg
  go_wp2_with fail
  generalize wf.alloc (.cells #[.int .i64 (0 : Int), .int .i64 (-1)] 32) = wg at *
  refine (rbare_any 2 wg).mono ?_
  rintro e w1 ⟨rfl, b1⟩
  have hz1 := (b1.block w.heap.size (lt_of_block hzg)).trans hzg
  have bx := below_trans' bg0 b1
  have f0 : w1.frozen? ⟨w.heap.size, 0, none⟩ = false := by simp [World.frozen?, hz1]
  have f1 : w1.frozen? ⟨w.heap.size, 1, none⟩ = false := by simp [World.frozen?, hz1]
  have e0 : w1.cell? ⟨w.heap.size, 0, none⟩ = some (.int .i64 0) := by simp [World.cell?, hz1]
  have e1 : w1.cell? ⟨w.heap.size, 1, none⟩ = some (.int .i64 0) := by simp [World.cell?, hz1]
  obtain ⟨r0, r1⟩ := set2 hz1 (.int .i64 2) (.int .i64 (-1))
  have bb := (bx.setCell (p := ⟨w.heap.size, 0, none⟩) (Nat.le_refl _) (.int .i64 2)).setCell (p := ⟨w.heap.size, 1, none⟩) (Nat.le_refl _) (.int .i64 (-1))
  clear hzf bf0 bg hzg bg0 bf b1 hz1
  go_wp2_with fail
  generalize (w1.setCell ⟨w.heap.size, 0, none⟩ (.int .i64 2)).setCell ⟨w.heap.size, 1, none⟩ (.int .i64 (-1)) = w2 at r0 r1 bb ⊢
  (try simp only [Exit.inBlock, Exit.then])
  refine bodyPost_ret (by simp [results, Tryd.results32, go_sem, r0, r1]; try rfl) rfl ?_
  exact ⟨rfl, bb⟩

theorem rdelta_all (s0 : Option Addr) (n0 c0 : Nat) (l : List Blk) (size : Int) (S : List UInt8) (w : World) (hl : SliceIs w (.slice s0 n0 c0) 3 (bcells l)) :
    Calls Tryd.prog 32 #[.slice s0 n0 c0, .int .i64 size, .string (bs S)] w fun e w' => ∃ v, e = .returned (.tuple #[v, .agg #[.int .i64 (mkR l size S).2.1, .int .i64 (mkR l size S).2.2]]) ∧
      w'.ownsRow w.heap.size 67 4 v (mkR l size S).1.length (ocells (mkR l size S).1) ∧ Below w.heap.size w w' := by
  by_cases h : (chk l size).1 = 0
  · by_cases h2 : 4000 < S.length
    · refine (rdelta_long s0 n0 c0 l size S w hl h h2).mono ?_
      rintro e w' ⟨rfl, b⟩
      rw [mkR_long h h2]
      exact ⟨_, rfl, by rw [ocells_nil]; exact World.ownsRow_nil _ _ _ _, b⟩
    · obtain ⟨k1, k2, k3, k4⟩ := chk_ok h
      obtain ⟨z, rfl⟩ : ∃ z : Nat, size = z := ⟨size.toNat, by omega⟩
      refine (rdelta_yes s0 n0 c0 l z S w hl h (by omega)).mono ?_
      rintro e w' ⟨v, rfl, hown, b⟩
      rw [mkR_yes h h2]
      exact ⟨_, rfl, hown, b⟩
  · refine (rdelta_no s0 n0 c0 l size S w hl h).mono ?_
    rintro e w' ⟨rfl, b⟩
    rw [mkR_no h]
    exact ⟨_, by rw [rfv_is], by rw [ocells_nil]; exact World.ownsRow_nil _ _ _ _, b⟩
end Go.Proofs.YtkhjhbgoccljfaaDoor
