/- Texts of one proof, one behind the other: FilChk2, RefFlt, RefLines. -/
import Derived.Test.YtdpoalbbcmkceaaGreatDoorB15
import Derived.Test.YtdpoalbbcmkceaaGreatDoorB17
import Derived.Test.YtdpoalbbcmkceaaGreatDoorB11
import Derived.Test.YtdpoalbbcmkceaaGreatDoorB14
/- Contracts of files.Check, files.lines, files.Get. -/
namespace Go.Proofs.YtdpoalbbcmkceaaGreatDoor
open Go.RowKit
set_option linter.unusedVariables false

def fn0 (f : PF) : Value := .string (bs f.n)
def fn1 (f : PF) : Value := .string (bs f.d)
/-- files, as cells -/
def fcells (l : List PF) : List Value := rowc fn0 fn1 l
theorem fcells_len (l : List PF) : (fcells l).length = l.length * 2 := rowc_len _ _ l
theorem fcells_get (l : List PF) (k : Nat) (h : k < l.length) : (fcells l)[k * 2]? = some (.string (bs l[k].n)) ∧ (fcells l)[k * 2 + 1]? = some (.string (bs l[k].d)) := rowc_get _ _ l k h
theorem fcells_nil : fcells [] = [] := rfl
theorem fcells_append (l m : List PF) : fcells (l ++ m) = fcells l ++ fcells m := rowc_append _ _ l m
theorem fcells_one (f : PF) : fcells [f] = [.string (bs f.n), .string (bs f.d)] := rfl
theorem fcells_cell (l : List PF) : ∀ u ∈ fcells l, u.oneCell' = true := rowc_oneCell _ _ (fun _ => ⟨rfl, rfl⟩) l
/-- names and data are texts -/
def FOk (l : List PF) : Prop := ∀ f ∈ l, f.n.length ≤ maxLen ∧ f.d.length ≤ maxLen
theorem line_cs {w : World} {sb : Nat} {a b c : Value} {t : TypeId} (h : w.heap[sb]? = some (.cells #[a, b, c] t (0, 0))) : w.cell? ⟨sb, 0, none⟩ = some a ∧ w.cell? ⟨sb, 1, none⟩ = some b ∧ w.cell? ⟨sb, 2, none⟩ = some c ∧ w.frozen? ⟨sb, 0, none⟩ = false ∧ w.frozen? ⟨sb, 1, none⟩ = false ∧ w.frozen? ⟨sb, 2, none⟩ = false := by
  refine ⟨?_, ?_, ?_, ?_, ?_, ?_⟩ <;> simp [World.cell?, World.frozen?, h]
theorem line_set {W : World} {sb : Nat} {a b c x y z : Value} {t : TypeId} (h : W.heap[sb]? = some (.cells #[a, b, c] t (0, 0))) : (((W.setCell ⟨sb, 0, none⟩ x).setCell ⟨sb, 1, none⟩ y).setCell ⟨sb, 2, none⟩ z).heap[sb]? = some (.cells #[x, y, z] t (0, 0)) := by
  have := set_at (k := 2) (u := z) (set_at (k := 1) (u := y) (set_at (k := 0) (u := x) h))
  simpa using this
theorem enterChk : ∀ args w, (callFunc 33 args).run Tryz.prog w = .ok (.enter 33 args) w := enters_of Tryz.func33 (by kernel_rfl) rfl
set_option maxRecDepth 100000 in
set_option maxHeartbeats 3200000 in
theorem chk1_any (l : List PF) (v : Value) (b k : Nat) (w : World) (hk : k < l.length) (hc : w.cell? ⟨b, 0, none⟩ = some v) (hl : SliceIs w v 2 (fcells l)) (hd : FOk l) :
    Calls Tryz.prog 33 #[.int .i64 k, .pointer (some ⟨b, 0, none⟩)] w fun e w' => e = .returned (.agg #[.string (bs l[k].n), .int .i64 (l[k].d.length : Int), .int .u32 ((0 : Nat) : Int)]) ∧ Below w.heap.size w w' := by
  have hb : b < w.heap.size := World.block_lt_of_cell? w _ hc
  have hne : b ≠ w.heap.size := by omega
  obtain ⟨s, n, c, rfl, hn, h1, h2, hg⟩ := hl.get
  rw [fcells_len] at hn
  obtain ⟨g2, g3⟩ := fcells_get l k hk
  obtain ⟨ad, rfl, d0⟩ := hg _ _ g2
  obtain ⟨a', e', d1⟩ := hg _ _ g3
  cases e'
  obtain ⟨_, hdl⟩ := hd l[k] (List.getElem_mem _)
  have hsz : (bs l[k].d).size = l[k].d.length := bs_size _
  generalize l[k] = f at *
  have d1 := cell_at d1
  have x1 : (0 : Int) ≤ k := by omega
  have x2 : (k : Int).toNat = k := by omega
  have x3 : (k : Int) < n := by omega
  unfold maxLen at h2 hdl
  have hlt := World.block_lt_of_cell? w _ d0
  have HSZ := Lib.hid hsz
  have HBL := Lib.hid (wb_alloc w (.cells #[.string ⟨#[]⟩, .int .i64 0, .int .u32 0] 39))
  clear hl hg g2 g3 hd
  go_enter Tryz.func33, Tryz.ntmps33
  go_wp2_with fail
  have e0 : (w.alloc (.cells #[.string ⟨#[]⟩, .int .i64 0, .int .u32 0] 39)).cell? ⟨b, 0, none⟩ = some (.slice (some ad) n c) := (HBL.out.cell (p := ⟨b, 0, none⟩) hb).trans hc
  have e1 := (HBL.out.cell (p := ad.add (k * 2)) hlt).trans d0
  have e2 := (HBL.out.cell (p := ⟨(ad.add (k * 2)).block, (ad.add (k * 2)).off + (0 + 1), none⟩) hlt).trans d1
  have hnew := heap_alloc_new w (.cells #[.string ⟨#[]⟩, .int .i64 0, .int .u32 0] 39)
  generalize w.alloc (.cells #[.string ⟨#[]⟩, .int .i64 0, .int .u32 0] 39) = W0 at *
  clear hc d0 d1 hsz
  have hlit : ∀ t d o u (a : Addr), ({ heap := W0.heap, tape := t, drawn := d, os := o, output := u } : World).cell? a = W0.cell? a := fun _ _ _ _ _ => rfl
  go_still_tail 12, (by kernel_rfl)
  clear hlit
  change wpList _ _ _ _ _ (World.drew W0)
  have hnew' : (World.drew W0).heap[w.heap.size]? = some (.cells #[.string ⟨#[]⟩, .int .i64 0, .int .u32 0] 39 (0, 0)) := hnew
  have HBD := Lib.hid (show Below w.heap.size w (World.drew W0) from below_drewN HBL.out 1)
  generalize World.drew W0 = W1 at *
  clear e0 e1 e2 hnew HBL
  obtain ⟨q0, q1, q2, z0, z1, z2⟩ := line_cs hnew'
  go_wp2_with fail
  have HW := Lib.hid (line_set (x := (.string (bs f.n))) (y := (.int .i64 (f.d.length : Int))) (z := (.int .u32 0)) hnew')
  have BW := Lib.hid (((HBD.out.setCell (p := ⟨w.heap.size, 0, none⟩) (Nat.le_refl _) (.string (bs f.n))).setCell (p := ⟨w.heap.size, 1, none⟩) (Nat.le_refl _) (.int .i64 (f.d.length : Int))).setCell (p := ⟨w.heap.size, 2, none⟩) (Nat.le_refl _) (.int .u32 0))
  generalize ((W1.setCell ⟨w.heap.size, 0, none⟩ (.string (bs f.n))).setCell ⟨w.heap.size, 1, none⟩ (.int .i64 (f.d.length : Int))).setCell ⟨w.heap.size, 2, none⟩ (.int .u32 0) = W2 at *
  obtain ⟨r0, r1, r2, _, _, _⟩ := line_cs HW.out
  exact bodyPost_ret (by simp [results, Tryz.results33, go_sem, r0, r1, r2]; try rfl) rfl ⟨rfl, BW.out⟩

theorem below_box (w : World) (v : Value) (t : TypeId) : Below w.heap.size w (w.alloc (.cells #[v] t)) := wb_alloc w _
set_option maxRecDepth 100000 in
set_option maxHeartbeats 3200000 in
theorem flcheck_any (E : Nat → Addr) (l : List PF) (v : Value) (w : World) (hl : SliceIs w v 2 (fcells l)) (hd : FOk l) (hlen : l.length ≤ 1000000000) (hB : Has E w 2) (hN : Has E w 5) (hF : Has E w 8) (hO : Has E w 9) :
    Calls Tryz.prog 19 #[v] w fun e w' => ∃ r, e = .returned r ∧ FErr E w' r (flFault l).1 (flFault l).2 ∧ Below w.heap.size w w' := by
  obtain ⟨s, n, c, rfl, hn, h1, h2, hg⟩ := hl.get
  rw [fcells_len] at hn
  obtain rfl : n = l.length := by omega
  have B0 := Lib.hid (below_box w (.slice s l.length c) 22)
  have key := flchecked_any E (l.map PF.chk) 33 #[.pointer (some ⟨w.heap.size, 0, none⟩)] enterChk (w.alloc (.cells #[.slice s l.length c] 22)) (by simpa using hlen)
    (fun x hx => by obtain ⟨f, hf, rfl⟩ := List.mem_map.1 hx; exact (hd f hf).1)
    (fun W k hk hb => by
      have hk' : k < l.length := by simpa using hk
      have := chk1_any l (.slice s l.length c) w.heap.size k W hk' ((hb.cell (p := ⟨w.heap.size, 0, none⟩) (by simp)).trans (by simp)) ((hl.below B0.out).below hb) hd
      simpa [PF.chk] using this)
    (hB.below B0.out) (hN.below B0.out) (hF.below B0.out) (hO.below B0.out)
  rw [List.length_map] at key
  have KEY := Lib.hid key
  have HFF := Lib.hid (show flFault l = lnFault (l.map PF.chk) from rfl)
  unfold maxLen at h2
  clear key hl hg hB hN hF hO
  go_enter Tryz.func19, Tryz.ntmps19
  go_wp2_with fail
  refine KEY.out.mono ?_
  rintro e w1 ⟨r, rfl, fe, b1⟩
  have BB := Lib.hid (below_trans' B0.out b1)
  have FE := Lib.hid fe
  clear fe b1 KEY
  go_wp2_with fail
  go_ret
  exact ⟨_, rfl, by rw [HFF.out]; exact FE.out, BB.out⟩

/-- lines, as cells -/
def PL.vals (x : PL) : List Value := [.string (bs x.n), .int .i64 x.N, .int .u32 x.S]
def lcells (l : List PL) : List Value := l.flatMap PL.vals
theorem lcells_nil : lcells [] = [] := rfl
theorem lcells_cons (x : PL) (l : List PL) : lcells (x :: l) = [.string (bs x.n), .int .i64 x.N, .int .u32 x.S] ++ lcells l := rfl
theorem lcells_append (l m : List PL) : lcells (l ++ m) = lcells l ++ lcells m := by unfold lcells; exact List.flatMap_append
theorem lcells_one (x : PL) : lcells [x] = [.string (bs x.n), .int .i64 x.N, .int .u32 x.S] := rfl
theorem lcells_len (l : List PL) : (lcells l).length = l.length * 3 := by
  induction l with
  | nil => rfl
  | cons k l ih => rw [lcells_cons, List.length_append, ih]; simp; omega
theorem lcells_get (l : List PL) (k : Nat) (h : k < l.length) : (lcells l)[k * 3]? = some (.string (bs l[k].n)) ∧ (lcells l)[k * 3 + 1]? = some (.int .i64 l[k].N) ∧ (lcells l)[k * 3 + 2]? = some (.int .u32 l[k].S) := by
  induction l generalizing k with
  | nil => simp at h
  | cons o l ih =>
    rw [lcells_cons]
    match k with
    | 0 => exact ⟨rfl, rfl, rfl⟩
    | k + 1 =>
      obtain ⟨h1, h2, h3⟩ := ih k (by simpa using h)
      refine ⟨?_, ?_, ?_⟩
      · rw [show (k + 1) * 3 = 3 + k * 3 by omega]; rw [List.getElem?_append_right (by simp)]; simpa using h1
      · rw [show (k + 1) * 3 + 1 = 3 + (k * 3 + 1) by omega]; rw [List.getElem?_append_right (by simp)]; simpa using h2
      · rw [show (k + 1) * 3 + 2 = 3 + (k * 3 + 2) by omega]; rw [List.getElem?_append_right (by simp)]; simpa using h3
theorem lcells_cell (l : List PL) : ∀ u ∈ lcells l, u.oneCell' = true := by
  intro u hu
  obtain ⟨x, _, hx⟩ := List.mem_flatMap.1 hu
  simp [PL.vals] at hx
  rcases hx with rfl | rfl | rfl <;> rfl
theorem enterLns : ∀ args w, (callFunc 114 args).run Tryz.prog w = .ok (.enter 114 args) w := enters_of Tryz.func114 (by kernel_rfl) rfl
set_option maxRecDepth 100000 in
set_option maxHeartbeats 3200000 in
theorem lns1_any (l : List PL) (v : Value) (b k : Nat) (w : World) (hk : k < l.length) (hc : w.cell? ⟨b, 0, none⟩ = some v) (hl : SliceIs w v 3 (lcells l)) :
    Calls Tryz.prog 114 #[.int .i64 k, .pointer (some ⟨b, 0, none⟩)] w fun e w' => e = .returned (.agg #[.string (bs l[k].n), .int .i64 l[k].N, .int .u32 l[k].S]) ∧ Below w.heap.size w w' := by
  have hb : b < w.heap.size := World.block_lt_of_cell? w _ hc
  have hne : b ≠ w.heap.size := by omega
  obtain ⟨s, n, c, rfl, hn, h1, h2, hg⟩ := hl.get
  rw [lcells_len] at hn
  obtain ⟨g2, g3, g4⟩ := lcells_get l k hk
  obtain ⟨ad, rfl, d0⟩ := hg _ _ g2
  obtain ⟨a', e', d1⟩ := hg _ _ g3
  cases e'
  obtain ⟨a', e', d2⟩ := hg _ _ g4
  cases e'
  generalize l[k] = f at *
  have d1 := cell_at d1
  have d2 := cell_at d2
  have x1 : (0 : Int) ≤ k := by omega
  have x2 : (k : Int).toNat = k := by omega
  have x3 : (k : Int) < n := by omega
  unfold maxLen at h2
  have hlt := World.block_lt_of_cell? w _ d0
  have HBD := Lib.hid (wb_alloc w (.cells #[.string (bs f.n), .int .i64 f.N, .int .u32 f.S] 39))
  clear hl hg g2 g3 g4
  go_enter Tryz.func114, Tryz.ntmps114
  go_wp2_with fail
  go_returns
  exact ⟨rfl, HBD.out⟩
set_option maxRecDepth 100000 in
set_option maxHeartbeats 3200000 in
theorem fllines_any (E : Nat → Addr) (l : List PL) (v : Value) (w : World) (hl : SliceIs w v 3 (lcells l)) (hd : ∀ x ∈ l, x.n.length ≤ maxLen) (hlen : l.length ≤ 1000000000) (hB : Has E w 2) (hN : Has E w 5) (hF : Has E w 8) (hO : Has E w 9) :
    Calls Tryz.prog 82 #[v] w fun e w' => ∃ r, e = .returned r ∧ FErr E w' r (lnFault l).1 (lnFault l).2 ∧ Below w.heap.size w w' := by
  obtain ⟨s, n, c, rfl, hn, h1, h2, hg⟩ := hl.get
  rw [lcells_len] at hn
  obtain rfl : n = l.length := by omega
  have B0 := Lib.hid (below_box w (.slice s l.length c) 34)
  have key := flchecked_any E l 114 #[.pointer (some ⟨w.heap.size, 0, none⟩)] enterLns (w.alloc (.cells #[.slice s l.length c] 34)) hlen hd
    (fun W k hk hb => lns1_any l (.slice s l.length c) w.heap.size k W hk ((hb.cell (p := ⟨w.heap.size, 0, none⟩) (by simp)).trans (by simp)) ((hl.below B0.out).below hb))
    (hB.below B0.out) (hN.below B0.out) (hF.below B0.out) (hO.below B0.out)
  have KEY := Lib.hid key
  unfold maxLen at h2
  clear key hl hg hB hN hF hO
  go_enter Tryz.func82, Tryz.ntmps82
  go_wp2_with fail
  refine KEY.out.mono ?_
  rintro e w1 ⟨r, rfl, fe, b1⟩
  have BB := Lib.hid (below_trans' B0.out b1)
  have FE := Lib.hid fe
  clear fe b1 KEY
  go_wp2_with fail
  go_ret
  exact ⟨_, rfl, FE.out, BB.out⟩

/-! ### Get -/
theorem fget_yes {l : List PF} {n : List UInt8} {k : Nat} (h : k < l.length) (e : l[k].n = n) : fgetL (l.drop k) n = some l[k].d := by
  unfold fgetL; rw [List.drop_eq_getElem_cons h, List.find?_cons_of_pos (by simp [e])]; rfl
theorem fget_no {l : List PF} {n : List UInt8} {k : Nat} (h : k < l.length) (e : l[k].n ≠ n) : fgetL (l.drop k) n = fgetL (l.drop (k + 1)) n := by
  unfold fgetL; rw [List.drop_eq_getElem_cons h, List.find?_cons_of_neg (by simp [e])]
theorem fget_end {l : List PF} {n : List UInt8} {k : Nat} (h : l.length ≤ k) : fgetL (l.drop k) n = none := by rw [List.drop_of_length_le h]; rfl
theorem fget_start (l : List PF) (n : List UInt8) : fgetL l n = fgetL (l.drop 0) n := rfl
set_option maxRecDepth 100000 in
set_option maxHeartbeats 3200000 in
theorem flget_any (l : List PF) (v : Value) (n : List UInt8) (w : World) (hl : SliceIs w v 2 (fcells l)) :
    Calls Tryz.prog 64 #[v, .string (bs n)] w fun e w' => e = .returned (.tuple #[.string (bs ((fgetL l n).getD [])), .bool (fgetL l n).isSome]) ∧ Below w.heap.size w w' := by
  obtain ⟨s, m, c, rfl, hn, h1, h2, hg⟩ := hl.get
  rw [fcells_len] at hn
  obtain rfl : m = l.length := by omega
  unfold maxLen at h2
  have HSL := Lib.hid hl
  have HS := Lib.hid (fget_start l n)
  generalize fgetL l n = r at *
  clear hl hg
  go_enter Tryz.func64, Tryz.ntmps64
  go_wp2_with fail
  go_loopw [10, 7] (fun i _ wr => ∃ k : Nat, i = .int .i64 k ∧ k ≤ l.length ∧ r = fgetL (l.drop k) n ∧ Below w.heap.size w wr) (fun i _ _ => l.length - (intOf i).toNat)
  case atStart => exact ⟨0, rfl, by omega, HS.out, Below.refl _ _⟩
  case round =>
    obtain ⟨k, rfl, hk, hr, bel⟩ := hrel
    have HR := Lib.hid hr
    clear hr
    by_cases hlt : k < l.length
    · have hltI : (k : Int) < l.length := by omega
      obtain ⟨s0', n0', c0', e1, _, _, _, g1⟩ := (HSL.out.below bel).get
      cases e1
      obtain ⟨g2, g3⟩ := fcells_get l k hlt
      obtain ⟨ad, rfl, d0⟩ := g1 _ _ g2
      obtain ⟨a', e', d1⟩ := g1 _ _ g3
      cases e'
      clear g1 g2 g3
      have YES := Lib.hid (fun h => HR.out.trans (fget_yes (n := n) hlt h))
      have NO := Lib.hid (fun h => HR.out.trans (fget_no (n := n) hlt h))
      have KK := Lib.hid (show k + 1 ≤ l.length by omega)
      have x1 : (0 : Int) ≤ k := by omega
      have x2 : (k : Int).toNat = k := by omega
      generalize l[k] = x at d0 d1 YES NO
      have d1 := cell_at d1
      by_cases hx : x.n = n
      · have hb : ((bs x.n).toList == (bs n).toList) = true := by rw [bs_tl', bs_tl']; simpa using hx
        have Y := Lib.hid (YES.out hx)
        clear YES NO hx
        go_wp2_with fail
        go_ret2
        exact ⟨by rw [Y.out]; rfl, bel.alloc bel.size _⟩
      · have hb : ((bs x.n).toList == (bs n).toList) = false := by rw [bs_tl', bs_tl']; simpa using hx
        have Y := Lib.hid (NO.out hx)
        clear YES NO hx
        go_wp2_with fail
        go_roundw
        case rel => exact ⟨k + 1, by go_num, KK.out, Y.out, bel.alloc bel.size _⟩
        case measure => simp [intOf]; omega
    · have hltI : ¬ (k : Int) < l.length := by omega
      have Y := Lib.hid (HR.out.trans (fget_end (n := n) (by omega : l.length ≤ k)))
      go_wp2_with fail
      go_ret2
      exact ⟨by rw [Y.out, show (none : Option (List UInt8)).getD [] = [] from rfl, show bs [] = ⟨#[]⟩ by unfold bs; rfl]; rfl, bel⟩
end Go.Proofs.YtdpoalbbcmkceaaGreatDoor
/- The document's fault, a struct; Bare and Fine. -/
namespace Go.Proofs.YtdpoalbbcmkceaaGreatDoor
open Go.RowKit
set_option linter.unusedVariables false

def rfv (p : Nat × Int) : Value := .agg #[.int .i64 p.1, .int .i64 p.2]
theorem rfv_is (p : Nat × Int) : rfv p = .agg #[.int .i64 p.1, .int .i64 p.2] := rfl
theorem rfv_mk (p : Nat × Int) (c : Nat) (a : Int) (h : p = (c, a)) : Value.agg #[.int .i64 c, .int .i64 a] = rfv p := by rw [h, rfv_is]
theorem below_one (w : World) (o : Obj) : Below w.heap.size w (w.alloc o) := (Below.refl _ w).alloc (Nat.le_refl _) o
theorem set2 {w : World} {b : Nat} {x y : Value} {t : TypeId} (h : w.heap[b]? = some (.cells #[x, y] t (0, 0))) (u v : Value) :
    ((w.setCell ⟨b, 0, none⟩ u).setCell ⟨b, 1, none⟩ v).cell? ⟨b, 0, none⟩ = some u ∧ ((w.setCell ⟨b, 0, none⟩ u).setCell ⟨b, 1, none⟩ v).cell? ⟨b, 1, none⟩ = some v := by
  have h1 := set_at (k := 0) (u := u) h
  have h2 := set_at (k := 1) (u := v) h1
  constructor
  · simp [World.cell?, h2]
  · simp [World.cell?, h2]
set_option maxRecDepth 100000 in
theorem rbare_any (c : Int) (w : World) : Calls Tryz.prog 44 #[.int .i64 c] w fun e w' => e = .returned (.agg #[.int .i64 c, .int .i64 (-1)]) ∧ Below w.heap.size w w' := by
  go_enter Tryz.func44, Tryz.ntmps44
  go_wp2_with fail
  go_returns
  exact ⟨rfl, below_one _ _⟩
set_option maxRecDepth 100000 in
theorem rfine_any (w : World) : Calls Tryz.prog 46 #[] w fun e w' => e = .returned (.agg #[.int .i64 0, .int .i64 (-1)]) ∧ Below w.heap.size w w' := by
  go_enter Tryz.func46, Tryz.ntmps46
  go_wp2_with fail
  go_returns
  exact ⟨rfl, below_one _ _⟩
attribute [irreducible] rfv
end Go.Proofs.YtdpoalbbcmkceaaGreatDoor
/- The document's LinesFault. -/
namespace Go.Proofs.YtdpoalbbcmkceaaGreatDoor
open Go.RowKit
set_option linter.unusedVariables false

/-- a line of the document's -/
structure PM where
  n : List UInt8
  N : Int
  S : Int
deriving DecidableEq
def PM.vals (x : PM) : List Value := [.string (bs x.n), .int .i64 x.N, .int .i64 x.S]
def PM.pl (x : PM) : PL := ⟨x.n, x.N, x.S.toNat⟩
def mcells (l : List PM) : List Value := l.flatMap PM.vals
theorem infoM : (Tryz.prog.info? 66).map (fun i => (i.zero, i.size, i.bytes)) = some (some (.agg #[.string ⟨#[]⟩, .int .i64 0, .int .i64 0]), 3, 32) := by kernel_rfl
theorem mcells_nil : mcells [] = [] := rfl
theorem mcells_cons (x : PM) (l : List PM) : mcells (x :: l) = [.string (bs x.n), .int .i64 x.N, .int .i64 x.S] ++ mcells l := rfl
theorem mcells_append (l m : List PM) : mcells (l ++ m) = mcells l ++ mcells m := by unfold mcells; exact List.flatMap_append
theorem mcells_len (l : List PM) : (mcells l).length = l.length * 3 := by
  induction l with
  | nil => rfl
  | cons k l ih => rw [mcells_cons, List.length_append, ih]; simp; omega
theorem mcells_get (l : List PM) (k : Nat) (h : k < l.length) : (mcells l)[k * 3]? = some (.string (bs l[k].n)) ∧ (mcells l)[k * 3 + 1]? = some (.int .i64 l[k].N) ∧ (mcells l)[k * 3 + 2]? = some (.int .i64 l[k].S) := by
  induction l generalizing k with
  | nil => simp at h
  | cons o l ih =>
    cases k with
    | zero => exact ⟨rfl, rfl, rfl⟩
    | succ k =>
      have := ih k (by simpa using h)
      rw [mcells_cons]
      rw [show (k + 1) * 3 = 3 + k * 3 by omega, show 3 + k * 3 + 1 = 3 + (k * 3 + 1) by omega, show 3 + k * 3 + 2 = 3 + (k * 3 + 2) by omega]
      rw [List.getElem?_append_right (by simp), List.getElem?_append_right (by simp), List.getElem?_append_right (by simp)]
      simpa using this
theorem mcells_cell (l : List PM) : ∀ u ∈ mcells l, u.oneCell' = true := by
  intro u hu
  obtain ⟨x, _, hx⟩ := List.mem_flatMap.1 hu
  simp [PM.vals] at hx
  rcases hx with rfl | rfl | rfl <;> rfl
def lastM (l : List PM) (k : Nat) : List UInt8 := match k with | 0 => [] | k + 1 => (l[k]?.map PM.n).getD []
theorem lastM_succ {l : List PM} {k : Nat} (h : k < l.length) : lastM l (k + 1) = (l[k]'h).n := by simp [lastM, h]
set_option maxRecDepth 100000 in
set_option maxHeartbeats 6400000 in
theorem linesFault_any (l : List PM) (v : Value) (w : World) (hl : SliceIs w v 3 (mcells l)) (hnm : ∀ x ∈ l, x.n.length ≤ 1000000000) :
    Calls Tryz.prog 28 #[v] w fun e w' => e = .returned (rfv (lnFault (l.map PM.pl))) ∧ Below w.heap.size w w' := by
  obtain ⟨s, n, c, rfl, hn, h1, h2, hg⟩ := hl.get
  rw [mcells_len] at hn
  obtain rfl : n = l.length := by omega
  unfold maxLen at h2
  have MK := Lib.hid (rfv_mk (lnFault (l.map PM.pl)))
  have HSL := Lib.hid hl
  have HNM := Lib.hid hnm
  have HML := Lib.hid (show (l.map PM.pl).length = l.length from List.length_map ..)
  have HB0 := Lib.hid (below_one w (.cells #[.int .i64 0, .int .i64 0] 42))
  clear hl hg hnm
  by_cases hfull : 20 < l.length
  · have hI : (20 : Int) < l.length := by omega
    have FA := Lib.hid (lnFault_full (l := l.map PM.pl) (by rw [HML.out]; exact hfull))
    go_enter Tryz.func28, Tryz.ntmps28
    go_wp2_with fail
    refine (rbare_any 8 _).mono ?_
    rintro e w1 ⟨rfl, b1⟩
    have hz1 := (b1.block w.heap.size (by simp)).trans (heap_alloc_new w _)
    have f0 : w1.frozen? ⟨w.heap.size, 0, none⟩ = false := by simp [World.frozen?, hz1]
    have f1 : w1.frozen? ⟨w.heap.size, 1, none⟩ = false := by simp [World.frozen?, hz1]
    have e0 : w1.cell? ⟨w.heap.size, 0, none⟩ = some (.int .i64 0) := by simp [World.cell?, hz1]
    have e1 : w1.cell? ⟨w.heap.size, 1, none⟩ = some (.int .i64 0) := by simp [World.cell?, hz1]
    have bx := below_trans' HB0.out b1
    obtain ⟨r0, r1⟩ := set2 hz1 (.int .i64 8) (.int .i64 (-1))
    have bb := (bx.setCell (p := ⟨w.heap.size, 0, none⟩) (Nat.le_refl _) (.int .i64 8)).setCell (p := ⟨w.heap.size, 1, none⟩) (Nat.le_refl _) (.int .i64 (-1))
    go_wp2_with fail
    generalize (w1.setCell ⟨w.heap.size, 0, none⟩ (.int .i64 8)).setCell ⟨w.heap.size, 1, none⟩ (.int .i64 (-1)) = w2 at r0 r1 bb ⊢
    (try simp only [Exit.inBlock, Exit.then])
    refine bodyPost_ret (by simp [results, Tryz.results28, go_sem, r0, r1]; try rfl) rfl ?_
    exact ⟨by rw [FA.out, rfv_is]; rfl, bb⟩
  · have hI : ¬ (20 : Int) < l.length := by omega
    have FA := Lib.hid (lnFault_from (l := l.map PM.pl) (by rw [HML.out]; exact hfull))
    go_enter Tryz.func28, Tryz.ntmps28
    go_wp2_with fail
    go_loopw [3, 4, 5] (fun i _ _ wr => ∃ (k : Nat), i = .int .i64 k ∧ k ≤ l.length ∧ lnFault (l.map PM.pl) = lnFrom k (lastM l k) ((l.map PM.pl).drop k) ∧ wr.heap[w.heap.size]? = some (.cells #[.int .i64 0, .int .i64 0] 42 (0, 0)) ∧ Below w.heap.size w wr) (fun i _ _ _ => l.length - (intOf i).toNat)
    case atStart => exact ⟨0, rfl, by omega, FA.out, heap_alloc_new w _, HB0.out⟩
    case round =>
      obtain ⟨k, rfl, hk, hf, hz, hbw⟩ := hrel
      have HFA := Lib.hid hf
      have BW := Lib.hid hbw
      have HZ := Lib.hid hz
      clear hf hbw
      by_cases hlt : k < l.length
      · have hltI : (k : Int) < l.length := by omega
        have hltM : k < (l.map PM.pl).length := by rw [HML.out]; exact hlt
        have HEL := Lib.hid (show (l.map PM.pl)[k]'hltM = (l[k]'hlt).pl from List.getElem_map ..)
        have BAD := Lib.hid (fun c hc h0 => HFA.out.trans (lnFrom_bad (last := lastM l k) hltM (c := c) hc h0))
        have NEXT := Lib.hid (fun h0 => (HFA.out.trans (lnFrom_step (last := lastM l k) hltM h0)))
        rw [HEL.out] at BAD NEXT
        rw [show (l[k]'hlt).pl.n = lastM l (k + 1) from (lastM_succ hlt).symm] at NEXT
        have RN := Lib.hid (fun w' => isName_any (l[k]'hlt).n w' (HNM.out _ (List.getElem_mem _)))
        have KK := Lib.hid (show k + 1 ≤ l.length from hlt)
        obtain ⟨s', n', c', q, _, _, _, g1⟩ := (HSL.out.below BW.out).get
        cases q
        obtain ⟨a0, a1, _⟩ := mcells_get l k hlt
        obtain ⟨ad, rfl, d0⟩ := g1 _ _ a0
        obtain ⟨ad', q, d1⟩ := g1 _ _ a1
        cases q
        have G1 := Lib.hid g1
        clear g1 a0 a1
        have d1 := cell_at d1
        have x1 : (0 : Int) ≤ k := by omega
        have x2 : (k : Int).toNat = k := by omega
        generalize hx : l[k]'hlt = x at d0 d1 BAD NEXT RN
        have HX := Lib.hid hx
        clear hx
        obtain ⟨xn, xN, xS⟩ := x
        simp only [] at d0 d1 RN
        simp only [PM.pl] at BAD NEXT
        have f0 : wr.frozen? ⟨w.heap.size, 0, none⟩ = false := by simp [World.frozen?, hz]
        have f1 : wr.frozen? ⟨w.heap.size, 1, none⟩ = false := by simp [World.frozen?, hz]
        have e0 : wr.cell? ⟨w.heap.size, 0, none⟩ = some (.int .i64 0) := by simp [World.cell?, hz]
        have e1 : wr.cell? ⟨w.heap.size, 1, none⟩ = some (.int .i64 0) := by simp [World.cell?, hz]
        clear hz
        cases hnb : nameB xn with
        | false =>
          have hb := Lib.hid (BAD.out 5 (lnBad_name hnb) (by decide))
          rw [hnb] at RN
          clear BAD NEXT hnb
          go_wp2_with fail
          refine (RN.out _).mono ?_
          rintro e w1 ⟨rfl, rfl⟩
          obtain ⟨r0, r1⟩ := set2 HZ.out (.int .i64 5) (.int .i64 k)
          have bb := (BW.out.setCell (p := ⟨w.heap.size, 0, none⟩) (Nat.le_refl _) (.int .i64 5)).setCell (p := ⟨w.heap.size, 1, none⟩) (Nat.le_refl _) (.int .i64 k)
          go_wp2_with fail
          generalize (w1.setCell ⟨w.heap.size, 0, none⟩ (.int .i64 5)).setCell ⟨w.heap.size, 1, none⟩ (.int .i64 k) = w2 at r0 r1 bb ⊢
          (try simp only [Exit.inBlock, Exit.then])
          refine bodyPost_ret (by simp [results, Tryz.results28, go_sem, r0, r1]; try rfl) rfl ?_
          exact ⟨by rw [hb.out, rfv_is]; rfl, bb⟩
        | true =>
          rw [hnb] at RN
          by_cases hbd : xN < 0 ∨ 4000 < xN
          · have hb := Lib.hid (BAD.out 2 (lnBad_bound hnb hbd) (by decide))
            clear BAD NEXT hnb
            rcases (show xN < 0 ∨ ¬ xN < 0 ∧ 4000 < xN by omega) with h | ⟨h, h'⟩
            all_goals
              go_wp2_with fail
              refine (RN.out _).mono ?_
              rintro e w1 ⟨rfl, rfl⟩
              obtain ⟨r0, r1⟩ := set2 HZ.out (.int .i64 2) (.int .i64 k)
              have bb := (BW.out.setCell (p := ⟨w.heap.size, 0, none⟩) (Nat.le_refl _) (.int .i64 2)).setCell (p := ⟨w.heap.size, 1, none⟩) (Nat.le_refl _) (.int .i64 k)
              go_wp2_with fail
              generalize (w1.setCell ⟨w.heap.size, 0, none⟩ (.int .i64 2)).setCell ⟨w.heap.size, 1, none⟩ (.int .i64 k) = w2 at r0 r1 bb ⊢
              (try simp only [Exit.inBlock, Exit.then])
              refine bodyPost_ret (by simp [results, Tryz.results28, go_sem, r0, r1]; try rfl) rfl ?_
              exact ⟨by rw [hb.out, rfv_is]; rfl, bb⟩
          · have h1' : ¬ xN < 0 := by omega
            have h2' : ¬ 4000 < xN := by omega
            rcases Nat.eq_zero_or_pos k with hk0 | hkp
            · have hb := Lib.hid (NEXT.out (by rw [hk0]; exact lnBad_first hnb hbd))
              have hkI : ¬ (0 : Int) < k := by omega
              have hkD : decide ((0 : Int) < k) = false := by simpa using hkI
              have hkN : ¬ 0 < k := by omega
              have hgt : ∀ w, (binOp .gtr 3 (.int .i64 (k : Int)) (.int .i64 0)).run Tryz.prog w = .ok (.bool false) w := fun w => by rw [show (k : Int) = 0 by omega]; rfl
              clear BAD NEXT hk0 hbd hnb
              go_wp2_with fail
              refine (RN.out _).mono ?_
              rintro e w1 ⟨rfl, rfl⟩
              go_wp2_with fail
              go_quiet (fail)
              go_wp2_with fail
              go_roundw
              case rel => exact ⟨k + 1, by go_num, KK.out, hb.out, HZ.out, below_drewN BW.out _⟩
              case measure => simp [intOf]; omega
            · have hkb : (k == 0) = false := by simp; omega
              have hkI : (0 : Int) < k := by omega
              obtain ⟨j, hj⟩ : ∃ j, k = j + 1 := ⟨k - 1, by omega⟩
              have hjl : j < l.length := by omega
              obtain ⟨a2, q2, d2⟩ := G1.out _ _ (mcells_get l j hjl).1
              cases q2
              have d3 : wr.cell? (ad.add (j * 3)) = some (.string (bs (lastM l k))) := by rw [hj, lastM_succ hjl]; exact d2
              have hgt : ∀ w, (binOp .gtr 3 (.int .i64 (k : Int)) (.int .i64 0)).run Tryz.prog w = .ok (.bool true) w := fun w => (show (binOp .gtr 3 (.int .i64 (k : Int)) (.int .i64 0)).run Tryz.prog w = .ok (.bool (decide ((0 : Int) < k))) w from rfl).trans (by rw [decide_eq_true hkI])
              have x3 : ((k : Int) - 1).toNat = j := by omega
              have x4 : (0 : Int) ≤ (k : Int) - 1 := by omega
              have x5 : (k : Int) - 1 < l.length := by omega
              have hkN : 0 < k := hkp
              clear d2
              cases hor : ltL (lastM l k) xn with
              | true =>
                have hb := Lib.hid (NEXT.out (lnBad_next hnb hbd hor))
                generalize lastM l k = la at d3 hor
                have hle : ∀ w, (binOp .leq 9 (.string (bs xn)) (.string (bs la))).run Tryz.prog w = .ok (.bool false) w := fun w => by rw [run_leq, hor]; rfl
                clear BAD NEXT hbd hnb hor hkb hj hkp
                go_wp2_with fail
                refine (RN.out _).mono ?_
                rintro e w1 ⟨rfl, rfl⟩
                go_wp2_with fail
                go_quiet (fail)
                go_wp2_with fail
                go_roundw
                case rel => exact ⟨k + 1, by go_num, KK.out, hb.out, HZ.out, below_drewN BW.out _⟩
                case measure => simp [intOf]; omega
              | false =>
                have hb := Lib.hid (BAD.out 9 (by rw [hkb]; exact lnBad_order hnb hbd hor) (by decide))
                generalize lastM l k = la at d3 hor
                have hle : ∀ w, (binOp .leq 9 (.string (bs xn)) (.string (bs la))).run Tryz.prog w = .ok (.bool true) w := fun w => by rw [run_leq, hor]; rfl
                clear BAD NEXT hbd hnb hor hkb hj hkp
                go_wp2_with fail
                refine (RN.out _).mono ?_
                rintro e w1 ⟨rfl, rfl⟩
                go_wp2_with fail
                go_quiet (fail)
                go_wp2_with fail
                have rr := fun n => set2 (show (w1.drewN n).heap[w.heap.size]? = _ from HZ.out) (.int .i64 9) (.int .i64 k)
                have r0 := fun n => (rr n).1
                have r1 := fun n => (rr n).2
                (try simp only [Exit.inBlock, Exit.then])
                refine bodyPost_ret (by simp [results, Tryz.results28, go_sem, r0, r1]; try rfl) rfl ?_
                exact ⟨by rw [hb.out, rfv_is]; rfl, ((below_drewN BW.out _).setCell (p := ⟨w.heap.size, 0, none⟩) (Nat.le_refl _) (.int .i64 9)).setCell (p := ⟨w.heap.size, 1, none⟩) (Nat.le_refl _) (.int .i64 k)⟩
      · have hltI : ¬ (k : Int) < l.length := by omega
        have hb := Lib.hid (HFA.out.trans (lnFrom_end (last := lastM l k) (by rw [HML.out]; omega)))
        go_wp2_with fail
        refine (rfine_any _).mono ?_
        rintro e w1 ⟨rfl, b1⟩
        have hz1 := (b1.block w.heap.size (lt_of_block HZ.out)).trans HZ.out
        have f0 : w1.frozen? ⟨w.heap.size, 0, none⟩ = false := by simp [World.frozen?, hz1]
        have f1 : w1.frozen? ⟨w.heap.size, 1, none⟩ = false := by simp [World.frozen?, hz1]
        have e0 : w1.cell? ⟨w.heap.size, 0, none⟩ = some (.int .i64 0) := by simp [World.cell?, hz1]
        have e1 : w1.cell? ⟨w.heap.size, 1, none⟩ = some (.int .i64 0) := by simp [World.cell?, hz1]
        have bx := below_trans' BW.out b1
        obtain ⟨r0, r1⟩ := set2 hz1 (.int .i64 0) (.int .i64 (-1))
        have bb := (bx.setCell (p := ⟨w.heap.size, 0, none⟩) (Nat.le_refl _) (.int .i64 0)).setCell (p := ⟨w.heap.size, 1, none⟩) (Nat.le_refl _) (.int .i64 (-1))
        go_wp2_with fail
        generalize (w1.setCell ⟨w.heap.size, 0, none⟩ (.int .i64 0)).setCell ⟨w.heap.size, 1, none⟩ (.int .i64 (-1)) = w2 at r0 r1 bb ⊢
        (try simp only [Exit.inBlock, Exit.then])
        refine bodyPost_ret (by simp [results, Tryz.results28, go_sem, r0, r1]; try rfl) rfl ?_
        exact ⟨by rw [hb.out, rfv_is]; rfl, bb⟩
end Go.Proofs.YtdpoalbbcmkceaaGreatDoor
