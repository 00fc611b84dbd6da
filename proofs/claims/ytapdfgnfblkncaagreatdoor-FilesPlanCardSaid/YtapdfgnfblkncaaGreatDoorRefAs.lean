/- The statements' AsLines and LongLines; the document's find. -/
import Derived.Test.YtapdfgnfblkncaaGreatDoorRefLines
import Derived.Test.YtapdfgnfblkncaaGreatDoorFilLines
import Derived.IntWalk
namespace Go.Proofs.YtapdfgnfblkncaaGreatDoor
open Go.RowKit
set_option linter.unusedVariables false

def PM.ok32 (x : PM) : Prop := 0 ≤ x.S ∧ x.S ≤ 4294967295
set_option maxRecDepth 100000 in
set_option maxHeartbeats 6400000 in
theorem asLines_any (l : List PM) (v : Value) (w : World) (hl : SliceIs w v 3 (mcells l)) (hS : ∀ x ∈ l, x.ok32) (hlen : l.length ≤ 1000000) :
    Calls Tryz.prog 8 #[v] w fun e w' => ∃ r, e = .returned r ∧ w'.ownsRow w.heap.size 60 3 r l.length (lcells (l.map PM.pl)) ∧ Below w.heap.size w w' := by
  obtain ⟨s, n, c, rfl, hn, h1, h2, hg⟩ := hl.get
  rw [mcells_len] at hn
  obtain rfl : n = l.length := by omega
  unfold maxLen at h2
  have HSL := Lib.hid hl
  have HS := Lib.hid hS
  obtain ⟨i0, hi, hz0, hz1, hz2⟩ := info_parts infoLine
  clear hl hg hS
  go_enter Tryz.func8, Tryz.ntmps8
  go_wp2_with fail
  go_loopw [3, 4] (fun o i wr => ∃ k : Nat, i = .int .i64 k ∧ k ≤ l.length ∧ wr.ownsRow w.heap.size 60 3 o k (lcells ((l.take k).map PM.pl)) ∧ Below w.heap.size w wr) (fun _ i _ => l.length - (intOf i).toNat)
  case atStart => exact ⟨0, rfl, by omega, World.ownsRow_nil _ _ _ _, Below.refl _ _⟩
  case round =>
    obtain ⟨k, rfl, hk, hown, bel⟩ := hrel
    have BW := Lib.hid bel
    by_cases hlt : k < l.length
    · have hltI : (k : Int) < l.length := by omega
      obtain ⟨s0', n0', c0', e1, _, _, _, g1⟩ := (HSL.out.below bel).get
      cases e1
      obtain ⟨g2, g3, g4⟩ := mcells_get l k hlt
      obtain ⟨ad, rfl, d0⟩ := g1 _ _ g2
      obtain ⟨a', e', d1⟩ := g1 _ _ g3
      cases e'
      obtain ⟨a', e', d2⟩ := g1 _ _ g4
      cases e'
      clear g1 g2 g3 g4
      have hx32 := HS.out _ (List.getElem_mem hlt)
      have NX := Lib.hid (show lcells ((l.take (k + 1)).map PM.pl) = lcells ((l.take k).map PM.pl) ++ [.string (bs (l[k]'hlt).n), .int .i64 (l[k]'hlt).N, .int .u32 (((l[k]'hlt).S.toNat : Nat) : Int)] by
        rw [List.take_succ_eq_append_getElem hlt, List.map_append, lcells_append]; rfl)
      have x1 : (0 : Int) ≤ k := by omega
      have x2 : (k : Int).toNat = k := by omega
      have KK := Lib.hid (show k + 1 ≤ l.length from hlt)
      generalize l[k]'hlt = x at d0 d1 d2 NX hx32
      obtain ⟨q1, q2⟩ := hx32
      rw [show ((x.S.toNat : Nat) : Int) = x.S by omega] at NX
      have d1 := cell_at d1
      have d2 := cell_at d2
      have HO := Lib.hid hown
      have HN1 : Hid (k + 1 ≤ maxLen) := by show _ ≤ _; unfold maxLen; omega
      have HN2 : Hid ((k + 1) * 32 ≤ 140737488355328) := by show _ ≤ _; omega
      have hm32 : IntKind.u32.wrap x.S = x.S := by rw [IntKind.wrap_u32]; omega
      obtain ⟨va, vc, rfl⟩ := owns_slice hown
      clear hown bel
      go_wp2_with fail
      go_region_law (refine step_append_own rfl (.tmp 11) (.tmp 29) 32 rfl w.heap.size 60 i0 _ 3 32 Tryz.underlying32 hi hz0 hz1 hz2 rfl (by decide) (.slice va k vc) k _ rfl (HO.out.alloc _).drew ⟨wr.heap.size, 0, none⟩ 1 1 [.string (bs x.n), .int .i64 x.N, .int .u32 x.S] rfl rfl (three_newsL (heap_alloc_new _ _)) (fun u hu => by simp at hu; rcases hu with rfl | rfl | rfl <;> rfl) HN1.out HN2.out (by have := BW.out.size; simp; omega) ?_; intro v' w5 hown5 hgrow _; have HO5 := Lib.hid hown5; have HG5 := Lib.hid (grown_undrew hgrow))
      all_goals
        go_wp2_with fail
        go_roundw
        case rel => exact ⟨k + 1, by go_num, KK.out, by rw [NX.out]; exact HO5.out, (BW.out.alloc BW.out.size _).grown HG5.out (by have := BW.out.size; simp; omega) (fun j hj => (HO.out.lt j hj).1)⟩
        case measure => simp [intOf]; omega
    · have hltI : ¬ (k : Int) < l.length := by omega
      rw [List.take_of_length_le (by omega)] at hown
      obtain rfl : k = l.length := by omega
      go_wp2_with fail
      go_ret
      exact ⟨_, rfl, hown, BW.out⟩

/-! ### LongLines -/
def longM (x : PM) : Bool := decide (30 < x.n.length) || (decide (x.S < 0) || decide (4294967295 < x.S))
def longMB (l : List PM) : Bool := decide (25 < l.length) || l.any longM
def longMN (l : List PM) : Int := if longMB l then 1 else 0
theorem longMN_t {l : List PM} (h : longMB l = true) : longMN l = 1 := by unfold longMN; rw [h]; rfl
theorem longMN_f {l : List PM} (h : longMB l = false) : longMN l = 0 := by unfold longMN; rw [h]; rfl
theorem longMN_bd (l : List PM) : (longMN l = 0 ∧ longMB l = false) ∨ (longMN l = 1 ∧ longMB l = true) := by
  cases h : longMB l with
  | true => exact .inr ⟨longMN_t h, rfl⟩
  | false => exact .inl ⟨longMN_f h, rfl⟩
theorem longMB_no {l : List PM} (h : longMB l = false) : l.length ≤ 25 ∧ ∀ x ∈ l, x.n.length ≤ 30 ∧ x.ok32 := by
  unfold longMB at h
  rw [Bool.or_eq_false_iff] at h
  obtain ⟨h1, h2⟩ := h
  rw [List.any_eq_false] at h2
  refine ⟨by simpa using h1, fun x hx => ?_⟩
  have := h2 x hx
  unfold longM at this
  simp at this
  unfold PM.ok32
  omega
set_option maxRecDepth 100000 in
set_option maxHeartbeats 3200000 in
theorem longLines_any (l : List PM) (v : Value) (w : World) (hl : SliceIs w v 3 (mcells l)) (hd : ∀ x ∈ l, x.n.length ≤ maxLen) :
    Calls Tryz.prog 5 #[v] w fun e w' => e = .returned (.int .i64 (longMN l)) ∧ Below w.heap.size w w' := by
  obtain ⟨s, m, c, rfl, hn, h1, h2, hg⟩ := hl.get
  rw [mcells_len] at hn
  obtain rfl : m = l.length := by omega
  unfold maxLen at h2
  have HSL := Lib.hid hl
  have HD := Lib.hid hd
  clear hl hg hd
  by_cases h25 : 25 < l.length
  · have hI : (25 : Int) < l.length := by omega
    have HB := Lib.hid (show longMB l = true by unfold longMB; simp [h25])
    go_enter Tryz.func5, Tryz.ntmps5
    go_wp2_with fail
    go_ret
    exact ⟨by rw [longMN_t HB.out]; rfl, Below.refl _ _⟩
  have hI : ¬ (25 : Int) < l.length := by omega
  have HB := Lib.hid (show longMB l = l.any longM by unfold longMB; simp [h25])
  go_enter Tryz.func5, Tryz.ntmps5
  go_wp2_with fail
  go_loopw [3] (fun i wr => ∃ k : Nat, i = .int .i64 k ∧ k ≤ l.length ∧ longMB l = (l.drop k).any longM ∧ Below w.heap.size w wr) (fun i _ => l.length - (intOf i).toNat)
  case atStart => exact ⟨0, rfl, by omega, HB.out, Below.refl _ _⟩
  case round =>
    obtain ⟨k, rfl, hk, hr, bel⟩ := hrel
    have HR := Lib.hid hr
    clear hr
    by_cases hlt : k < l.length
    · have hltI : (k : Int) < l.length := by omega
      obtain ⟨s0', n0', c0', e1, _, _, _, g1⟩ := (HSL.out.below bel).get
      cases e1
      obtain ⟨g2, g3, g4⟩ := mcells_get l k hlt
      obtain ⟨ad, rfl, d0⟩ := g1 _ _ g2
      obtain ⟨a', e', d2⟩ := g1 _ _ g4
      cases e'
      clear g1 g2 g3 g4
      have NX := Lib.hid (show longMB l = (longM (l[k]'hlt) || (l.drop (k + 1)).any longM) by rw [HR.out, List.drop_eq_getElem_cons hlt, List.any_cons])
      have KK := Lib.hid (show k + 1 ≤ l.length by omega)
      have x1 : (0 : Int) ≤ k := by omega
      have x2 : (k : Int).toNat = k := by omega
      have z1 := HD.out (l[k]'hlt) (List.getElem_mem _)
      unfold maxLen at z1
      generalize l[k]'hlt = x at d0 d2 NX z1
      have d2 := cell_at d2
      have hs1 : (bs x.n).size = x.n.length := bs_size _
      by_cases q1 : 30 < x.n.length
      · have q1I : (30 : Int) < x.n.length := by omega
        have Y := Lib.hid (show longMB l = true by rw [NX.out]; unfold longM; simp [q1])
        go_wp2_with fail
        go_ret
        exact ⟨by rw [longMN_t Y.out]; rfl, bel⟩
      have q1I : ¬ (30 : Int) < x.n.length := by omega
      by_cases q2 : x.S < 0
      · have Y := Lib.hid (show longMB l = true by rw [NX.out]; unfold longM; simp [q2])
        go_wp2_with fail
        go_ret
        exact ⟨by rw [longMN_t Y.out]; rfl, bel⟩
      by_cases q3 : 4294967295 < x.S
      · have Y := Lib.hid (show longMB l = true by rw [NX.out]; unfold longM; simp [q3])
        go_wp2_with fail
        go_ret
        exact ⟨by rw [longMN_t Y.out]; rfl, bel⟩
      · have Y := Lib.hid (show longMB l = (l.drop (k + 1)).any longM by rw [NX.out]; unfold longM; simp [q1, q2, q3])
        go_wp2_with fail
        go_roundw
        case rel => exact ⟨k + 1, by go_num, KK.out, Y.out, bel⟩
        case measure => simp [intOf]; omega
    · have hltI : ¬ (k : Int) < l.length := by omega
      have Y := Lib.hid (show longMB l = false by rw [HR.out, List.drop_of_length_le (by omega)]; rfl)
      go_wp2_with fail
      go_ret
      exact ⟨by rw [longMN_f Y.out]; rfl, bel⟩

/-! ### find -/
def findM : List PM → List UInt8 → Int → Int
  | [], _, _ => -1
  | x :: l, n, k => if x.n = n then k else findM l n (k + 1)
theorem findM_end {l : List PM} {n : List UInt8} {k : Nat} {j : Int} (h : l.length ≤ k) : findM (l.drop k) n j = -1 := by rw [List.drop_of_length_le h]; rfl
theorem findM_yes {l : List PM} {n : List UInt8} {k : Nat} {j : Int} (h : k < l.length) (e : (l[k]'h).n = n) : findM (l.drop k) n j = j := by
  rw [List.drop_eq_getElem_cons h, findM, if_pos e]
theorem findM_no {l : List PM} {n : List UInt8} {k : Nat} {j : Int} (h : k < l.length) (e : (l[k]'h).n ≠ n) : findM (l.drop k) n j = findM (l.drop (k + 1)) n (j + 1) := by
  rw [List.drop_eq_getElem_cons h, findM, if_neg e]
set_option maxRecDepth 100000 in
set_option maxHeartbeats 3200000 in
theorem find_ref (l : List PM) (v : Value) (n : List UInt8) (w : World) (hl : SliceIs w v 3 (mcells l)) :
    Calls Tryz.prog 37 #[v, .string (bs n)] w fun e w' => e = .returned (.int .i64 (findM l n 0)) ∧ w' = w := by
  obtain ⟨s, m, c, rfl, hn, h1, h2, hg⟩ := hl.get
  rw [mcells_len] at hn
  obtain rfl : m = l.length := by omega
  unfold maxLen at h2
  have HSL := Lib.hid hl
  clear hl hg
  go_enter Tryz.func37, Tryz.ntmps37
  go_wp2_with fail
  go_loopw [5] (fun i wr => ∃ k : Nat, i = .int .i64 k ∧ k ≤ l.length ∧ findM l n 0 = findM (l.drop k) n k ∧ wr = w) (fun i _ => l.length - (intOf i).toNat)
  case atStart => exact ⟨0, rfl, by omega, rfl, rfl⟩
  case round =>
    obtain ⟨k, rfl, hk, hr, rfl⟩ := hrel
    have HR := Lib.hid hr
    clear hr
    by_cases hlt : k < l.length
    · have hltI : (k : Int) < l.length := by omega
      obtain ⟨s0', n0', c0', e1, _, _, _, g1⟩ := (HSL.out).get
      cases e1
      obtain ⟨g2, _, _⟩ := mcells_get l k hlt
      obtain ⟨ad, rfl, d0⟩ := g1 _ _ g2
      clear g1 g2
      have YES := Lib.hid (fun e => HR.out.trans (findM_yes (j := k) hlt e))
      have NO := Lib.hid (fun e => HR.out.trans (findM_no (j := k) hlt e))
      have KK := Lib.hid (show k + 1 ≤ l.length from hlt)
      have x1 : (0 : Int) ≤ k := by omega
      have x2 : (k : Int).toNat = k := by omega
      generalize l[k]'hlt = x at d0 YES NO
      by_cases hx : x.n = n
      · have hb : ((bs x.n).toList == (bs n).toList) = true := by rw [bs_tl', bs_tl']; simpa using hx
        have Y := Lib.hid (YES.out hx)
        clear YES NO hx
        go_wp2_with fail
        go_ret
        exact ⟨by rw [Y.out]; rfl, rfl⟩
      · have hb : ((bs x.n).toList == (bs n).toList) = false := by rw [bs_tl', bs_tl']; simpa using hx
        have Y := Lib.hid (NO.out hx)
        clear YES NO hx
        go_wp2_with fail
        go_roundw
        case rel => exact ⟨k + 1, by go_num, KK.out, by rw [Y.out]; rfl, by trivial⟩
        case measure => simp [intOf]; omega
    · have hltI : ¬ (k : Int) < l.length := by omega
      have Y := Lib.hid (HR.out.trans (findM_end (n := n) (j := k) (show l.length ≤ k by omega)))
      clear HR
      go_wp2_with fail
      go_ret
      exact ⟨by rw [Y.out]; rfl, rfl⟩
end Go.Proofs.YtapdfgnfblkncaaGreatDoor
