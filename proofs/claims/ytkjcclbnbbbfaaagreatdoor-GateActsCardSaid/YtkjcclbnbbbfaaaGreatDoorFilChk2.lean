/- Contracts of files.Check, files.lines, files.Get. -/
import Derived.Test.YtkjcclbnbbbfaaaGreatDoorFilChk
import Derived.Test.YtkjcclbnbbbfaaaGreatDoorRow2
import Derived.Test.YtkjcclbnbbbfaaaGreatDoorFilPlain
namespace Go.Proofs.YtkjcclbnbbbfaaaGreatDoor
open Go.RowKit
set_option linter.unusedVariables false

def fn0 (f : PF) : Value := .string (bs f.n)
def fn1 (f : PF) : Value := .string (bs f.d)
/-- files, as cells -/
def fcells (l : List PF) : List Value := rowc fn0 fn1 l
theorem fcells_len (l : List PF) : (fcells l).length = l.length * 2 := rowc_len _ _ l
theorem fcells_get (l : List PF) (k : Nat) (h : k < l.length) : (fcells l)[k * 2]? = some (.string (bs l[k].n)) ∧ (fcells l)[k * 2 + 1]? = some (.string (bs l[k].d)) := rowc_get _ _ l k h
theorem fcells_nil : fcells [] = [] := rfl
theorem fcells_append (l m : List PF) : fcells (l ++ m) = fcells l ++ fcells m := rowc_append _ _ l m
theorem fcells_one (f : PF) : fcells [f] = [.string (bs f.n), .string (bs f.d)] := rfl
theorem fcells_cell (l : List PF) : ∀ u ∈ fcells l, u.oneCell' = true := rowc_oneCell _ _ (fun _ => ⟨rfl, rfl⟩) l
/-- names and data are texts -/
def FOk (l : List PF) : Prop := ∀ f ∈ l, f.n.length ≤ maxLen ∧ f.d.length ≤ maxLen
theorem line_cs {w : World} {sb : Nat} {a b c : Value} {t : TypeId} (h : w.heap[sb]? = some (.cells #[a, b, c] t (0, 0))) : w.cell? ⟨sb, 0, none⟩ = some a ∧ w.cell? ⟨sb, 1, none⟩ = some b ∧ w.cell? ⟨sb, 2, none⟩ = some c ∧ w.frozen? ⟨sb, 0, none⟩ = false ∧ w.frozen? ⟨sb, 1, none⟩ = false ∧ w.frozen? ⟨sb, 2, none⟩ = false := by
  refine ⟨?_, ?_, ?_, ?_, ?_, ?_⟩ <;> simp [World.cell?, World.frozen?, h]
theorem line_set {W : World} {sb : Nat} {a b c x y z : Value} {t : TypeId} (h : W.heap[sb]? = some (.cells #[a, b, c] t (0, 0))) : (((W.setCell ⟨sb, 0, none⟩ x).setCell ⟨sb, 1, none⟩ y).setCell ⟨sb, 2, none⟩ z).heap[sb]? = some (.cells #[x, y, z] t (0, 0)) := by
  have := set_at (k := 2) (u := z) (set_at (k := 1) (u := y) (set_at (k := 0) (u := x) h))
  simpa using this
theorem enterChk : ∀ args w, (callFunc 64 args).run Tryz.prog w = .ok (.enter 64 args) w := enters_of Tryz.func64 (by kernel_rfl) rfl
set_option maxRecDepth 100000 in
set_option maxHeartbeats 3200000 in
theorem chk1_any (l : List PF) (v : Value) (b k : Nat) (w : World) (hk : k < l.length) (hc : w.cell? ⟨b, 0, none⟩ = some v) (hl : SliceIs w v 2 (fcells l)) (hd : FOk l) :
    Calls Tryz.prog 64 #[.int .i64 k, .pointer (some ⟨b, 0, none⟩)] w fun e w' => e = .returned (.agg #[.string (bs l[k].n), .int .i64 (l[k].d.length : Int), .int .u32 ((0 : Nat) : Int)]) ∧ Below w.heap.size w w' := by
  have hb : b < w.heap.size := World.block_lt_of_cell? w _ hc
  have hne : b ≠ w.heap.size := by omega
  obtain ⟨s, n, c, rfl, hn, h1, h2, hg⟩ := hl.get
  rw [fcells_len] at hn
  obtain ⟨g2, g3⟩ := fcells_get l k hk
  obtain ⟨ad, rfl, d0⟩ := hg _ _ g2
  obtain ⟨a', e', d1⟩ := hg _ _ g3
  cases e'
  obtain ⟨_, hdl⟩ := hd l[k] (List.getElem_mem _)
  have hsz : (bs l[k].d).size = l[k].d.length := bs_size _
  generalize l[k] = f at *
  have d1 := cell_at d1
  have x1 : (0 : Int) ≤ k := by omega
  have x2 : (k : Int).toNat = k := by omega
  have x3 : (k : Int) < n := by omega
  unfold maxLen at h2 hdl
  have hlt := World.block_lt_of_cell? w _ d0
  have HSZ := Lib.hid hsz
  have HBL := Lib.hid (wb_alloc w (.cells #[.string ⟨#[]⟩, .int .i64 0, .int .u32 0] 39))
  clear hl hg g2 g3 hd
  go_enter Tryz.func64, Tryz.ntmps64
  go_wp2_with fail
  have e0 : (w.alloc (.cells #[.string ⟨#[]⟩, .int .i64 0, .int .u32 0] 39)).cell? ⟨b, 0, none⟩ = some (.slice (some ad) n c) := (HBL.out.cell (p := ⟨b, 0, none⟩) hb).trans hc
  have e1 := (HBL.out.cell (p := ad.add (k * 2)) hlt).trans d0
  have e2 := (HBL.out.cell (p := ⟨(ad.add (k * 2)).block, (ad.add (k * 2)).off + (0 + 1), none⟩) hlt).trans d1
  have hnew := heap_alloc_new w (.cells #[.string ⟨#[]⟩, .int .i64 0, .int .u32 0] 39)
  generalize w.alloc (.cells #[.string ⟨#[]⟩, .int .i64 0, .int .u32 0] 39) = W0 at *
  clear hc d0 d1 hsz
  have hlit : ∀ t d o u (a : Addr), ({ heap := W0.heap, tape := t, drawn := d, os := o, output := u } : World).cell? a = W0.cell? a := fun _ _ _ _ _ => rfl
  go_still_tail 12, (by kernel_rfl)
  clear hlit
  change wpList _ _ _ _ _ (World.drew W0)
  have hnew' : (World.drew W0).heap[w.heap.size]? = some (.cells #[.string ⟨#[]⟩, .int .i64 0, .int .u32 0] 39 (0, 0)) := hnew
  have HBD := Lib.hid (show Below w.heap.size w (World.drew W0) from below_drewN HBL.out 1)
  generalize World.drew W0 = W1 at *
  clear e0 e1 e2 hnew HBL
  obtain ⟨q0, q1, q2, z0, z1, z2⟩ := line_cs hnew'
  go_wp2_with fail
  have HW := Lib.hid (line_set (x := (.string (bs f.n))) (y := (.int .i64 (f.d.length : Int))) (z := (.int .u32 0)) hnew')
  have BW := Lib.hid (((HBD.out.setCell (p := ⟨w.heap.size, 0, none⟩) (Nat.le_refl _) (.string (bs f.n))).setCell (p := ⟨w.heap.size, 1, none⟩) (Nat.le_refl _) (.int .i64 (f.d.length : Int))).setCell (p := ⟨w.heap.size, 2, none⟩) (Nat.le_refl _) (.int .u32 0))
  generalize ((W1.setCell ⟨w.heap.size, 0, none⟩ (.string (bs f.n))).setCell ⟨w.heap.size, 1, none⟩ (.int .i64 (f.d.length : Int))).setCell ⟨w.heap.size, 2, none⟩ (.int .u32 0) = W2 at *
  obtain ⟨r0, r1, r2, _, _, _⟩ := line_cs HW.out
  exact bodyPost_ret (by simp [results, Tryz.results64, go_sem, r0, r1, r2]; try rfl) rfl ⟨rfl, BW.out⟩

theorem below_box (w : World) (v : Value) (t : TypeId) : Below w.heap.size w (w.alloc (.cells #[v] t)) := wb_alloc w _
set_option maxRecDepth 100000 in
set_option maxHeartbeats 3200000 in
theorem flcheck_any (E : Nat → Addr) (l : List PF) (v : Value) (w : World) (hl : SliceIs w v 2 (fcells l)) (hd : FOk l) (hlen : l.length ≤ 1000000000) (hB : Has E w 2) (hN : Has E w 5) (hF : Has E w 8) (hO : Has E w 9) :
    Calls Tryz.prog 36 #[v] w fun e w' => ∃ r, e = .returned r ∧ FErr E w' r (flFault l).1 (flFault l).2 ∧ Below w.heap.size w w' := by
  obtain ⟨s, n, c, rfl, hn, h1, h2, hg⟩ := hl.get
  rw [fcells_len] at hn
  obtain rfl : n = l.length := by omega
  have B0 := Lib.hid (below_box w (.slice s l.length c) 22)
  have key := flchecked_any E (l.map PF.chk) 64 #[.pointer (some ⟨w.heap.size, 0, none⟩)] enterChk (w.alloc (.cells #[.slice s l.length c] 22)) (by simpa using hlen)
    (fun x hx => by obtain ⟨f, hf, rfl⟩ := List.mem_map.1 hx; exact (hd f hf).1)
    (fun W k hk hb => by
      have hk' : k < l.length := by simpa using hk
      have := chk1_any l (.slice s l.length c) w.heap.size k W hk' ((hb.cell (p := ⟨w.heap.size, 0, none⟩) (by simp)).trans (by simp)) ((hl.below B0.out).below hb) hd
      simpa [PF.chk] using this)
    (hB.below B0.out) (hN.below B0.out) (hF.below B0.out) (hO.below B0.out)
  rw [List.length_map] at key
  have KEY := Lib.hid key
  have HFF := Lib.hid (show flFault l = lnFault (l.map PF.chk) from rfl)
  unfold maxLen at h2
  clear key hl hg hB hN hF hO
  go_enter Tryz.func36, Tryz.ntmps36
  go_wp2_with fail
  refine KEY.out.mono ?_
  rintro e w1 ⟨r, rfl, fe, b1⟩
  have BB := Lib.hid (below_trans' B0.out b1)
  have FE := Lib.hid fe
  clear fe b1 KEY
  go_wp2_with fail
  go_ret
  exact ⟨_, rfl, by rw [HFF.out]; exact FE.out, BB.out⟩

/-- lines, as cells -/
def PL.vals (x : PL) : List Value := [.string (bs x.n), .int .i64 x.N, .int .u32 x.S]
def lcells (l : List PL) : List Value := l.flatMap PL.vals
theorem lcells_nil : lcells [] = [] := rfl
theorem lcells_cons (x : PL) (l : List PL) : lcells (x :: l) = [.string (bs x.n), .int .i64 x.N, .int .u32 x.S] ++ lcells l := rfl
theorem lcells_append (l m : List PL) : lcells (l ++ m) = lcells l ++ lcells m := by unfold lcells; exact List.flatMap_append
theorem lcells_one (x : PL) : lcells [x] = [.string (bs x.n), .int .i64 x.N, .int .u32 x.S] := rfl
theorem lcells_len (l : List PL) : (lcells l).length = l.length * 3 := by
  induction l with
  | nil => rfl
  | cons k l ih => rw [lcells_cons, List.length_append, ih]; simp; omega
theorem lcells_get (l : List PL) (k : Nat) (h : k < l.length) : (lcells l)[k * 3]? = some (.string (bs l[k].n)) ∧ (lcells l)[k * 3 + 1]? = some (.int .i64 l[k].N) ∧ (lcells l)[k * 3 + 2]? = some (.int .u32 l[k].S) := by
  induction l generalizing k with
  | nil => simp at h
  | cons o l ih =>
    rw [lcells_cons]
    match k with
    | 0 => exact ⟨rfl, rfl, rfl⟩
    | k + 1 =>
      obtain ⟨h1, h2, h3⟩ := ih k (by simpa using h)
      refine ⟨?_, ?_, ?_⟩
      · rw [show (k + 1) * 3 = 3 + k * 3 by omega]; rw [List.getElem?_append_right (by simp)]; simpa using h1
      · rw [show (k + 1) * 3 + 1 = 3 + (k * 3 + 1) by omega]; rw [List.getElem?_append_right (by simp)]; simpa using h2
      · rw [show (k + 1) * 3 + 2 = 3 + (k * 3 + 2) by omega]; rw [List.getElem?_append_right (by simp)]; simpa using h3
theorem lcells_cell (l : List PL) : ∀ u ∈ lcells l, u.oneCell' = true := by
  intro u hu
  obtain ⟨x, _, hx⟩ := List.mem_flatMap.1 hu
  simp [PL.vals] at hx
  rcases hx with rfl | rfl | rfl <;> rfl
theorem enterLns : ∀ args w, (callFunc 185 args).run Tryz.prog w = .ok (.enter 185 args) w := enters_of Tryz.func185 (by kernel_rfl) rfl
set_option maxRecDepth 100000 in
set_option maxHeartbeats 3200000 in
theorem lns1_any (l : List PL) (v : Value) (b k : Nat) (w : World) (hk : k < l.length) (hc : w.cell? ⟨b, 0, none⟩ = some v) (hl : SliceIs w v 3 (lcells l)) :
    Calls Tryz.prog 185 #[.int .i64 k, .pointer (some ⟨b, 0, none⟩)] w fun e w' => e = .returned (.agg #[.string (bs l[k].n), .int .i64 l[k].N, .int .u32 l[k].S]) ∧ Below w.heap.size w w' := by
  have hb : b < w.heap.size := World.block_lt_of_cell? w _ hc
  have hne : b ≠ w.heap.size := by omega
  obtain ⟨s, n, c, rfl, hn, h1, h2, hg⟩ := hl.get
  rw [lcells_len] at hn
  obtain ⟨g2, g3, g4⟩ := lcells_get l k hk
  obtain ⟨ad, rfl, d0⟩ := hg _ _ g2
  obtain ⟨a', e', d1⟩ := hg _ _ g3
  cases e'
  obtain ⟨a', e', d2⟩ := hg _ _ g4
  cases e'
  generalize l[k] = f at *
  have d1 := cell_at d1
  have d2 := cell_at d2
  have x1 : (0 : Int) ≤ k := by omega
  have x2 : (k : Int).toNat = k := by omega
  have x3 : (k : Int) < n := by omega
  unfold maxLen at h2
  have hlt := World.block_lt_of_cell? w _ d0
  have HBD := Lib.hid (wb_alloc w (.cells #[.string (bs f.n), .int .i64 f.N, .int .u32 f.S] 39))
  clear hl hg g2 g3 g4
  go_enter Tryz.func185, Tryz.ntmps185
  go_wp2_with fail
  go_returns
  exact ⟨rfl, HBD.out⟩
set_option maxRecDepth 100000 in
set_option maxHeartbeats 3200000 in
theorem fllines_any (E : Nat → Addr) (l : List PL) (v : Value) (w : World) (hl : SliceIs w v 3 (lcells l)) (hd : ∀ x ∈ l, x.n.length ≤ maxLen) (hlen : l.length ≤ 1000000000) (hB : Has E w 2) (hN : Has E w 5) (hF : Has E w 8) (hO : Has E w 9) :
    Calls Tryz.prog 135 #[v] w fun e w' => ∃ r, e = .returned r ∧ FErr E w' r (lnFault l).1 (lnFault l).2 ∧ Below w.heap.size w w' := by
  obtain ⟨s, n, c, rfl, hn, h1, h2, hg⟩ := hl.get
  rw [lcells_len] at hn
  obtain rfl : n = l.length := by omega
  have B0 := Lib.hid (below_box w (.slice s l.length c) 34)
  have key := flchecked_any E l 185 #[.pointer (some ⟨w.heap.size, 0, none⟩)] enterLns (w.alloc (.cells #[.slice s l.length c] 34)) hlen hd
    (fun W k hk hb => lns1_any l (.slice s l.length c) w.heap.size k W hk ((hb.cell (p := ⟨w.heap.size, 0, none⟩) (by simp)).trans (by simp)) ((hl.below B0.out).below hb))
    (hB.below B0.out) (hN.below B0.out) (hF.below B0.out) (hO.below B0.out)
  have KEY := Lib.hid key
  unfold maxLen at h2
  clear key hl hg hB hN hF hO
  go_enter Tryz.func135, Tryz.ntmps135
  go_wp2_with fail
  refine KEY.out.mono ?_
  rintro e w1 ⟨r, rfl, fe, b1⟩
  have BB := Lib.hid (below_trans' B0.out b1)
  have FE := Lib.hid fe
  clear fe b1 KEY
  go_wp2_with fail
  go_ret
  exact ⟨_, rfl, FE.out, BB.out⟩

/-! ### Get -/
theorem fget_yes {l : List PF} {n : List UInt8} {k : Nat} (h : k < l.length) (e : l[k].n = n) : fgetL (l.drop k) n = some l[k].d := by
  unfold fgetL; rw [List.drop_eq_getElem_cons h, List.find?_cons_of_pos (by simp [e])]; rfl
theorem fget_no {l : List PF} {n : List UInt8} {k : Nat} (h : k < l.length) (e : l[k].n ≠ n) : fgetL (l.drop k) n = fgetL (l.drop (k + 1)) n := by
  unfold fgetL; rw [List.drop_eq_getElem_cons h, List.find?_cons_of_neg (by simp [e])]
theorem fget_end {l : List PF} {n : List UInt8} {k : Nat} (h : l.length ≤ k) : fgetL (l.drop k) n = none := by rw [List.drop_of_length_le h]; rfl
theorem fget_start (l : List PF) (n : List UInt8) : fgetL l n = fgetL (l.drop 0) n := rfl
set_option maxRecDepth 100000 in
set_option maxHeartbeats 3200000 in
theorem flget_any (l : List PF) (v : Value) (n : List UInt8) (w : World) (hl : SliceIs w v 2 (fcells l)) :
    Calls Tryz.prog 101 #[v, .string (bs n)] w fun e w' => e = .returned (.tuple #[.string (bs ((fgetL l n).getD [])), .bool (fgetL l n).isSome]) ∧ Below w.heap.size w w' := by
  obtain ⟨s, m, c, rfl, hn, h1, h2, hg⟩ := hl.get
  rw [fcells_len] at hn
  obtain rfl : m = l.length := by omega
  unfold maxLen at h2
  have HSL := Lib.hid hl
  have HS := Lib.hid (fget_start l n)
  generalize fgetL l n = r at *
  clear hl hg
  go_enter Tryz.func101, Tryz.ntmps101
  go_wp2_with fail
  go_loopw [10, 7] (fun i _ wr => ∃ k : Nat, i = .int .i64 k ∧ k ≤ l.length ∧ r = fgetL (l.drop k) n ∧ Below w.heap.size w wr) (fun i _ _ => l.length - (intOf i).toNat)
  case atStart => exact ⟨0, rfl, by omega, HS.out, Below.refl _ _⟩
  case round =>
    obtain ⟨k, rfl, hk, hr, bel⟩ := hrel
    have HR := Lib.hid hr
    clear hr
    by_cases hlt : k < l.length
    · have hltI : (k : Int) < l.length := by omega
      obtain ⟨s0', n0', c0', e1, _, _, _, g1⟩ := (HSL.out.below bel).get
      cases e1
      obtain ⟨g2, g3⟩ := fcells_get l k hlt
      obtain ⟨ad, rfl, d0⟩ := g1 _ _ g2
      obtain ⟨a', e', d1⟩ := g1 _ _ g3
      cases e'
      clear g1 g2 g3
      have YES := Lib.hid (fun h => HR.out.trans (fget_yes (n := n) hlt h))
      have NO := Lib.hid (fun h => HR.out.trans (fget_no (n := n) hlt h))
      have KK := Lib.hid (show k + 1 ≤ l.length by omega)
      have x1 : (0 : Int) ≤ k := by omega
      have x2 : (k : Int).toNat = k := by omega
      generalize l[k] = x at d0 d1 YES NO
      have d1 := cell_at d1
      by_cases hx : x.n = n
      · have hb : ((bs x.n).toList == (bs n).toList) = true := by rw [bs_tl', bs_tl']; simpa using hx
        have Y := Lib.hid (YES.out hx)
        clear YES NO hx
        go_wp2_with fail
        go_ret2
        exact ⟨by rw [Y.out]; rfl, bel.alloc bel.size _⟩
      · have hb : ((bs x.n).toList == (bs n).toList) = false := by rw [bs_tl', bs_tl']; simpa using hx
        have Y := Lib.hid (NO.out hx)
        clear YES NO hx
        go_wp2_with fail
        go_roundw
        case rel => exact ⟨k + 1, by go_num, KK.out, Y.out, bel.alloc bel.size _⟩
        case measure => simp [intOf]; omega
    · have hltI : ¬ (k : Int) < l.length := by omega
      have Y := Lib.hid (HR.out.trans (fget_end (n := n) (by omega : l.length ≤ k)))
      go_wp2_with fail
      go_ret2
      exact ⟨by rw [Y.out, show (none : Option (List UInt8)).getD [] = [] from rfl, show bs [] = ⟨#[]⟩ by unfold bs; rfl]; rfl, bel⟩
end Go.Proofs.YtkjcclbnbbbfaaaGreatDoor
