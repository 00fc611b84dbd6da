/- The document's GetOf; a statement's LongFiles. -/
import Derived.Test.YtapdfgnfblkncaaDoorFilPut
namespace Go.Proofs.YtapdfgnfblkncaaDoor
open Go.RowKit
set_option linter.unusedVariables false

set_option maxRecDepth 100000 in
set_option maxHeartbeats 3200000 in
theorem getOf_any (l : List PF) (v : Value) (n : List UInt8) (w : World) (hl : SliceIs w v 2 (fcells l)) :
    Calls Tryd.prog 41 #[v, .string (bs n)] w fun e w' => e = .returned (.tuple #[.string (bs ((fgetL l n).getD [])), .bool (fgetL l n).isSome]) ∧ Below w.heap.size w w' := by
  obtain ⟨s, m, c, rfl, hn, h1, h2, hg⟩ := hl.get
  rw [fcells_len] at hn
  obtain rfl : m = l.length := by omega
  unfold maxLen at h2
  have HSL := Lib.hid hl
  have HS := Lib.hid (fget_start l n)
  generalize fgetL l n = r at *
  clear hl hg
  go_enter Tryd.func41, Tryd.ntmps41
  go_wp2_with fail
  go_loopw [6] (fun i wr => ∃ k : Nat, i = .int .i64 k ∧ k ≤ l.length ∧ r = fgetL (l.drop k) n ∧ Below w.heap.size w wr) (fun i _ => l.length - (intOf i).toNat)
  case atStart => exact ⟨0, rfl, by omega, HS.out, Below.refl _ _⟩
  case round =>
    obtain ⟨k, rfl, hk, hr, bel⟩ := hrel
    have HR := Lib.hid hr
    clear hr
    by_cases hlt : k < l.length
    · have hltI : (k : Int) < l.length := by omega
      obtain ⟨s0', n0', c0', e1, _, _, _, g1⟩ := (HSL.out.below bel).get
      cases e1
      obtain ⟨g2, g3⟩ := fcells_get l k hlt
      obtain ⟨ad, rfl, d0⟩ := g1 _ _ g2
      obtain ⟨a', e', d1⟩ := g1 _ _ g3
      cases e'
      clear g1 g2 g3
      have YES := Lib.hid (fun h => HR.out.trans (fget_yes (n := n) hlt h))
      have NO := Lib.hid (fun h => HR.out.trans (fget_no (n := n) hlt h))
      have KK := Lib.hid (show k + 1 ≤ l.length by omega)
      have x1 : (0 : Int) ≤ k := by omega
      have x2 : (k : Int).toNat = k := by omega
      generalize l[k] = x at d0 d1 YES NO
      have d1 := cell_at d1
      by_cases hx : x.n = n
      · have hb : ((bs x.n).toList == (bs n).toList) = true := by rw [bs_tl', bs_tl']; simpa using hx
        have Y := Lib.hid (YES.out hx)
        clear YES NO hx
        go_wp2_with fail
        go_ret2
        exact ⟨by rw [Y.out]; rfl, bel⟩
      · have hb : ((bs x.n).toList == (bs n).toList) = false := by rw [bs_tl', bs_tl']; simpa using hx
        have Y := Lib.hid (NO.out hx)
        clear YES NO hx
        go_wp2_with fail
        go_roundw
        case rel => exact ⟨k + 1, by go_num, KK.out, Y.out, bel⟩
        case measure => simp [intOf]; omega
    · have hltI : ¬ (k : Int) < l.length := by omega
      have Y := Lib.hid (HR.out.trans (fget_end (n := n) (show l.length ≤ k by omega)))
      clear HR
      go_wp2_with fail
      go_ret2
      exact ⟨by rw [Y.out]; show _ = Ending.returned (.tuple #[.string (bs []), .bool false]); rw [bs_nil]; rfl, bel⟩
def longF (most : Nat) (f : PF) : Bool := decide (30 < f.n.length) || (decide (most < f.d.length) && f.d.length != 4001)
def longFB (l : List PF) (most : Nat) : Bool := decide (25 < l.length) || l.any (longF most)
def longN (l : List PF) (most : Nat) : Int := if longFB l most then 1 else 0
theorem longN_t {l : List PF} {most : Nat} (h : longFB l most = true) : longN l most = 1 := by unfold longN; rw [h]; rfl
theorem longN_f {l : List PF} {most : Nat} (h : longFB l most = false) : longN l most = 0 := by unfold longN; rw [h]; rfl
set_option maxRecDepth 100000 in
set_option maxHeartbeats 3200000 in
theorem longFiles_any (l : List PF) (v : Value) (most : Nat) (w : World) (hl : SliceIs w v 2 (fcells l)) (hm : most ≤ 4000) (hd : FOk l) :
    Calls Tryd.prog 27 #[v, .int .i64 most] w fun e w' => e = .returned (.int .i64 (longN l most)) ∧ Below w.heap.size w w' := by
  obtain ⟨s, m, c, rfl, hn, h1, h2, hg⟩ := hl.get
  rw [fcells_len] at hn
  obtain rfl : m = l.length := by omega
  unfold maxLen at h2
  have HSL := Lib.hid hl
  have HD := Lib.hid hd
  clear hl hg hd
  by_cases h25 : 25 < l.length
  · have hI : (25 : Int) < l.length := by omega
    have HB := Lib.hid (show longFB l most = true by unfold longFB; simp [h25])
    go_enter Tryd.func27, Tryd.ntmps27
    go_wp2_with fail
    go_ret
    exact ⟨by rw [longN_t HB.out]; rfl, Below.refl _ _⟩
  have hI : ¬ (25 : Int) < l.length := by omega
  have HB := Lib.hid (show longFB l most = l.any (longF most) by unfold longFB; simp [h25])
  go_enter Tryd.func27, Tryd.ntmps27
  go_wp2_with fail
  go_loopw [5] (fun i wr => ∃ k : Nat, i = .int .i64 k ∧ k ≤ l.length ∧ longFB l most = (l.drop k).any (longF most) ∧ Below w.heap.size w wr) (fun i _ => l.length - (intOf i).toNat)
  case atStart => exact ⟨0, rfl, by omega, HB.out, Below.refl _ _⟩
  case round =>
    obtain ⟨k, rfl, hk, hr, bel⟩ := hrel
    have HR := Lib.hid hr
    clear hr
    by_cases hlt : k < l.length
    · have hltI : (k : Int) < l.length := by omega
      obtain ⟨s0', n0', c0', e1, _, _, _, g1⟩ := (HSL.out.below bel).get
      cases e1
      obtain ⟨g2, g3⟩ := fcells_get l k hlt
      obtain ⟨ad, rfl, d0⟩ := g1 _ _ g2
      obtain ⟨a', e', d1⟩ := g1 _ _ g3
      cases e'
      clear g1 g2 g3
      have NX := Lib.hid (show longFB l most = (longF most l[k] || (l.drop (k + 1)).any (longF most)) by rw [HR.out, List.drop_eq_getElem_cons hlt, List.any_cons])
      have KK := Lib.hid (show k + 1 ≤ l.length by omega)
      have x1 : (0 : Int) ≤ k := by omega
      have x2 : (k : Int).toNat = k := by omega
      obtain ⟨z1, z2⟩ := HD.out l[k] (List.getElem_mem _)
      unfold maxLen at z1 z2
      generalize l[k] = x at d0 d1 NX z1 z2
      have d1 := cell_at d1
      have hs1 : (bs x.n).size = x.n.length := bs_size _
      have hs2 : (bs x.d).size = x.d.length := bs_size _
      by_cases q1 : 30 < x.n.length
      · have q1I : (30 : Int) < x.n.length := by omega
        have Y := Lib.hid (show longFB l most = true by rw [NX.out]; unfold longF; simp [q1])
        go_wp2_with fail
        go_ret
        exact ⟨by first | (rw [longN_t Y.out]; rfl) | (rw [longN_f Y.out]; rfl), bel⟩
      have q1I : ¬ (30 : Int) < x.n.length := by omega
      by_cases q2 : most < x.d.length
      · have q2I : (most : Int) < x.d.length := by omega
        by_cases q3 : x.d.length = 4001
        · have q3I : ((x.d.length : Int) == 4001) = true := by simp; omega
          have q3J : (x.d.length : Int) = 4001 := by omega
          have Y := Lib.hid (show longFB l most = (l.drop (k + 1)).any (longF most) by rw [NX.out]; unfold longF; simp [q1, q3])
          go_wp2_with fail
          go_roundw
          case rel => exact ⟨k + 1, by go_num, KK.out, Y.out, bel⟩
          case measure => simp [intOf]; omega
        · have q3I : ((x.d.length : Int) == 4001) = false := by simp; omega
          have q3J : ¬ (x.d.length : Int) = 4001 := by omega
          have Y := Lib.hid (show longFB l most = true by rw [NX.out]; unfold longF; simp [q2, q3])
          go_wp2_with fail
          go_ret
          exact ⟨by first | (rw [longN_t Y.out]; rfl) | (rw [longN_f Y.out]; rfl), bel⟩
      · have q2I : ¬ (most : Int) < x.d.length := by omega
        have Y := Lib.hid (show longFB l most = (l.drop (k + 1)).any (longF most) by rw [NX.out]; unfold longF; simp [q1, q2])
        go_wp2_with fail
        go_roundw
        case rel => exact ⟨k + 1, by go_num, KK.out, Y.out, bel⟩
        case measure => simp [intOf]; omega
    · have hltI : ¬ (k : Int) < l.length := by omega
      have Y := Lib.hid (show longFB l most = false by rw [HR.out, List.drop_of_length_le (by omega)]; rfl)
      go_wp2_with fail
      go_ret
      exact ⟨by first | (rw [longN_t Y.out]; rfl) | (rw [longN_f Y.out]; rfl), bel⟩
end Go.Proofs.YtapdfgnfblkncaaDoor
/- The document's SameFiles and GetOf. -/
namespace Go.Proofs.YtapdfgnfblkncaaDoor
open Go.RowKit
set_option linter.unusedVariables false

set_option maxRecDepth 100000 in
set_option maxHeartbeats 3200000 in
theorem sameFiles_is (l1 l2 : List PF) (v1 v2 : Value) (w : World) (h1 : SliceIs w v1 2 (fcells l1)) (h2 : SliceIs w v2 2 (fcells l2)) :
    Calls Tryd.prog 42 #[v1, v2] w fun e w' => e = .returned (.bool (l1 == l2)) ∧ Drew w w' := by
  obtain ⟨s1, n1, c1, rfl, e1, m1, k1, g1⟩ := h1.get
  obtain ⟨s2, n2, c2, rfl, e2, m2, k2, g2⟩ := h2.get
  rw [fcells_len] at e1 e2
  have G1 := Lib.hid h1
  have G2 := Lib.hid h2
  clear g1 g2 h1 h2
  have k1' := k1
  unfold maxLen at k1'
  by_cases hlen : n1 = n2
  · subst hlen
    have L1 : l1.length = n1 := by omega
    have L2 : l2.length = n1 := by omega
    clear e1 e2
    go_enter Tryd.func42, Tryd.ntmps42
    go_wp2_with fail
    go_loopw [5] (fun i wr => ∃ k : Nat, i = .int .i64 k ∧ k ≤ n1 ∧ l1.take k = l2.take k ∧ Drew w wr) (fun i _ => n1 - (intOf i).toNat)
    case atStart => exact ⟨0, rfl, by omega, by simp, Drew.refl _⟩
    case round =>
      obtain ⟨k, rfl, hk, ht, m, rfl⟩ := hrel
      have HT := Lib.hid ht
      clear ht
      by_cases hlt : k < n1
      · have hltI : (k : Int) < n1 := by omega
        obtain ⟨s', n', c', q, _, _, _, g1⟩ := (G1.out).get
        cases q
        obtain ⟨a0, a1⟩ := fcells_get l1 k (by omega)
        obtain ⟨ad1, rfl, ha0⟩ := g1 _ _ a0
        obtain ⟨ad1', q, ha1⟩ := g1 _ _ a1
        cases q
        obtain ⟨s', n', c', q, _, _, _, g2⟩ := (G2.out).get
        cases q
        obtain ⟨b0, b1⟩ := fcells_get l2 k (by omega)
        obtain ⟨ad2, rfl, hb0⟩ := g2 _ _ b0
        obtain ⟨ad2', q, hb1⟩ := g2 _ _ b1
        cases q
        clear g1 g2 a0 a1 b0 b1
        have x1 : (0 : Int) ≤ k := by omega
        have x2 : (k : Int).toNat = k := by omega
        have HEQ := Lib.hid (show l1[k] = l2[k] → l1.take (k + 1) = l2.take (k + 1) from fun h => by rw [List.take_succ_eq_append_getElem (by omega), List.take_succ_eq_append_getElem (by omega), HT.out, h])
        have HNE := Lib.hid (show l1[k] ≠ l2[k] → (l1 == l2) = false from fun h => by rw [beq_eq_false_iff_ne]; rintro rfl; exact h rfl)
        generalize l1[k] = x at ha0 ha1 HEQ HNE
        generalize l2[k] = y at hb0 hb1 HEQ HNE
        obtain ⟨xn, xd⟩ := x
        obtain ⟨yn, yd⟩ := y
        have ha1 := cell_at ha1
        have hb1 := cell_at hb1
        have KK := Lib.hid (show k + 1 ≤ n1 by omega)
        by_cases hxy : xn = yn
        · subst hxy
          by_cases hxd : xd = yd
          · subst hxd
            go_wp2_with fail
            go_quiet (fail)
            go_wp2_with fail
            go_roundw
            case rel => exact ⟨k + 1, by go_num, KK.out, by first | exact HEQ.out rfl | exact HEQ.out trivial, by first | exact Drew.drewN _ _ | exact (Drew.drewN _ _).trans (Drew.drewN _ _)⟩
            case measure => simp [intOf]; omega
          · have hq : ((bs xd).toList == (bs yd).toList) = false := by rw [ByteArray.toList_eq, ByteArray.toList_eq]; simpa using hxd
            go_wp2_with fail
            go_quiet (fail)
            go_wp2_with fail
            go_ret
            exact ⟨by rw [HNE.out (by simp [hxd])]; rfl, by first | exact Drew.drewN _ _ | exact (Drew.drewN _ _).trans (Drew.drewN _ _)⟩
        · have hq : ((bs xn).toList == (bs yn).toList) = false := by rw [ByteArray.toList_eq, ByteArray.toList_eq]; simpa using hxy
          go_wp2_with fail
          go_quiet (fail)
          go_wp2_with fail
          go_ret
          exact ⟨by rw [HNE.out (by simp [hxy])]; rfl, by first | exact Drew.drewN _ _ | exact (Drew.drewN _ _).trans (Drew.drewN _ _)⟩
      · have hltI : ¬ (k : Int) < n1 := by omega
        have hll : l1 = l2 := by
          have := HT.out
          rwa [List.take_of_length_le (by omega), List.take_of_length_le (by omega)] at this
        go_wp2_with fail
        go_ret
        have hb2 : (l1 == l2) = true := by rw [hll]; simp
        exact ⟨by first | rfl | (rw [hb2]; rfl), Drew.drewN _ _⟩
  · have hb1 : ((n1 : Int) == (n2 : Int)) = false := by simp; omega
    have hI : ¬ (n1 : Int) = n2 := by omega
    have hne : (l1 == l2) = false := by rw [beq_eq_false_iff_ne]; rintro rfl; omega
    go_enter Tryd.func42, Tryd.ntmps42
    go_wp2_with fail
    go_ret
    exact ⟨by rw [hne]; rfl, Drew.refl _⟩
end Go.Proofs.YtapdfgnfblkncaaDoor
