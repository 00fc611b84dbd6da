/- Texts of one proof, one behind the other: FilChk2, FilList, FilLines, FilText. -/
import Derived.Test.YtppkeophochgiaaGreatDoorB11
import Derived.Test.YtppkeophochgiaaGreatDoorB09
import Derived.Test.YtppkeophochgiaaGreatDoorB10
import Derived.Test.YtppkeophochgiaaGreatDoorB08
import Derived.Lib.SliceRun
/- Contracts of files.Check, files.lines, files.Get. -/
namespace Go.Proofs.YtppkeophochgiaaGreatDoor
open Go.RowKit
set_option linter.unusedVariables false

def fn0 (f : PF) : Value := .string (bs f.n)
def fn1 (f : PF) : Value := .string (bs f.d)
/-- files, as cells -/
def fcells (l : List PF) : List Value := rowc fn0 fn1 l
theorem fcells_len (l : List PF) : (fcells l).length = l.length * 2 := rowc_len _ _ l
theorem fcells_get (l : List PF) (k : Nat) (h : k < l.length) : (fcells l)[k * 2]? = some (.string (bs l[k].n)) ∧ (fcells l)[k * 2 + 1]? = some (.string (bs l[k].d)) := rowc_get _ _ l k h
theorem fcells_nil : fcells [] = [] := rfl
theorem fcells_append (l m : List PF) : fcells (l ++ m) = fcells l ++ fcells m := rowc_append _ _ l m
theorem fcells_cell (l : List PF) : ∀ u ∈ fcells l, u.oneCell' = true := rowc_oneCell _ _ (fun _ => ⟨rfl, rfl⟩) l
/-- names and data are texts -/
def FOk (l : List PF) : Prop := ∀ f ∈ l, f.n.length ≤ maxLen ∧ f.d.length ≤ maxLen
theorem line_cs {w : World} {sb : Nat} {a b c : Value} {t : TypeId} (h : w.heap[sb]? = some (.cells #[a, b, c] t (0, 0))) : w.cell? ⟨sb, 0, none⟩ = some a ∧ w.cell? ⟨sb, 1, none⟩ = some b ∧ w.cell? ⟨sb, 2, none⟩ = some c ∧ w.frozen? ⟨sb, 0, none⟩ = false ∧ w.frozen? ⟨sb, 1, none⟩ = false ∧ w.frozen? ⟨sb, 2, none⟩ = false := by
  refine ⟨?_, ?_, ?_, ?_, ?_, ?_⟩ <;> simp [World.cell?, World.frozen?, h]
theorem line_set {W : World} {sb : Nat} {a b c x y z : Value} {t : TypeId} (h : W.heap[sb]? = some (.cells #[a, b, c] t (0, 0))) : (((W.setCell ⟨sb, 0, none⟩ x).setCell ⟨sb, 1, none⟩ y).setCell ⟨sb, 2, none⟩ z).heap[sb]? = some (.cells #[x, y, z] t (0, 0)) := by
  have := set_at (k := 2) (u := z) (set_at (k := 1) (u := y) (set_at (k := 0) (u := x) h))
  simpa using this
theorem enterChk : ∀ args w, (callFunc 133 args).run Tryz.prog w = .ok (.enter 133 args) w := enters_of Tryz.func133 (by kernel_rfl) rfl
set_option maxRecDepth 100000 in
set_option maxHeartbeats 3200000 in
theorem chk1_any (l : List PF) (v : Value) (b k : Nat) (w : World) (hk : k < l.length) (hc : w.cell? ⟨b, 0, none⟩ = some v) (hl : SliceIs w v 2 (fcells l)) (hd : FOk l) :
    Calls Tryz.prog 133 #[.int .i64 k, .pointer (some ⟨b, 0, none⟩)] w fun e w' => e = .returned (.agg #[.string (bs l[k].n), .int .i64 (l[k].d.length : Int), .int .u32 ((0 : Nat) : Int)]) ∧ Below w.heap.size w w' := by
  have hb : b < w.heap.size := World.block_lt_of_cell? w _ hc
  have hne : b ≠ w.heap.size := by omega
  obtain ⟨s, n, c, rfl, hn, h1, h2, hg⟩ := hl.get
  rw [fcells_len] at hn
  obtain ⟨g2, g3⟩ := fcells_get l k hk
  obtain ⟨ad, rfl, d0⟩ := hg _ _ g2
  obtain ⟨a', e', d1⟩ := hg _ _ g3
  cases e'
  obtain ⟨_, hdl⟩ := hd l[k] (List.getElem_mem _)
  have hsz : (bs l[k].d).size = l[k].d.length := bs_size _
  generalize l[k] = f at *
  have d1 := cell_at d1
  have x1 : (0 : Int) ≤ k := by omega
  have x2 : (k : Int).toNat = k := by omega
  have x3 : (k : Int) < n := by omega
  unfold maxLen at h2 hdl
  have hlt := World.block_lt_of_cell? w _ d0
  have HSZ := Lib.hid hsz
  have HBL := Lib.hid (wb_alloc w (.cells #[.string ⟨#[]⟩, .int .i64 0, .int .u32 0] 179))
  clear hl hg g2 g3 hd
  go_enter Tryz.func133, Tryz.ntmps133
  go_wp2_with fail
  have e0 : (w.alloc (.cells #[.string ⟨#[]⟩, .int .i64 0, .int .u32 0] 179)).cell? ⟨b, 0, none⟩ = some (.slice (some ad) n c) := (HBL.out.cell (p := ⟨b, 0, none⟩) hb).trans hc
  have e1 := (HBL.out.cell (p := ad.add (k * 2)) hlt).trans d0
  have e2 := (HBL.out.cell (p := ⟨(ad.add (k * 2)).block, (ad.add (k * 2)).off + (0 + 1), none⟩) hlt).trans d1
  have hnew := heap_alloc_new w (.cells #[.string ⟨#[]⟩, .int .i64 0, .int .u32 0] 179)
  generalize w.alloc (.cells #[.string ⟨#[]⟩, .int .i64 0, .int .u32 0] 179) = W0 at *
  clear hc d0 d1 hsz
  have hlit : ∀ t d o u (a : Addr), ({ heap := W0.heap, tape := t, drawn := d, os := o, output := u } : World).cell? a = W0.cell? a := fun _ _ _ _ _ => rfl
  go_still_tail 12, (by kernel_rfl)
  clear hlit
  change wpList _ _ _ _ _ (World.drew W0)
  have hnew' : (World.drew W0).heap[w.heap.size]? = some (.cells #[.string ⟨#[]⟩, .int .i64 0, .int .u32 0] 179 (0, 0)) := hnew
  have HBD := Lib.hid (show Below w.heap.size w (World.drew W0) from below_drewN HBL.out 1)
  generalize World.drew W0 = W1 at *
  clear e0 e1 e2 hnew HBL
  obtain ⟨q0, q1, q2, z0, z1, z2⟩ := line_cs hnew'
  go_wp2_with fail
  have HW := Lib.hid (line_set (x := (.string (bs f.n))) (y := (.int .i64 (f.d.length : Int))) (z := (.int .u32 0)) hnew')
  have BW := Lib.hid (((HBD.out.setCell (p := ⟨w.heap.size, 0, none⟩) (Nat.le_refl _) (.string (bs f.n))).setCell (p := ⟨w.heap.size, 1, none⟩) (Nat.le_refl _) (.int .i64 (f.d.length : Int))).setCell (p := ⟨w.heap.size, 2, none⟩) (Nat.le_refl _) (.int .u32 0))
  generalize ((W1.setCell ⟨w.heap.size, 0, none⟩ (.string (bs f.n))).setCell ⟨w.heap.size, 1, none⟩ (.int .i64 (f.d.length : Int))).setCell ⟨w.heap.size, 2, none⟩ (.int .u32 0) = W2 at *
  obtain ⟨r0, r1, r2, _, _, _⟩ := line_cs HW.out
  exact bodyPost_ret (by simp [results, Tryz.results133, go_sem, r0, r1, r2]; try rfl) rfl ⟨rfl, BW.out⟩

theorem below_box (w : World) (v : Value) (t : TypeId) : Below w.heap.size w (w.alloc (.cells #[v] t)) := wb_alloc w _
set_option maxRecDepth 100000 in
set_option maxHeartbeats 3200000 in
theorem flcheck_any (E : Nat → Addr) (l : List PF) (v : Value) (w : World) (hl : SliceIs w v 2 (fcells l)) (hd : FOk l) (hlen : l.length ≤ 1000000000) (hB : Has E w 2) (hN : Has E w 5) (hF : Has E w 8) (hO : Has E w 9) :
    Calls Tryz.prog 96 #[v] w fun e w' => ∃ r, e = .returned r ∧ FErr E w' r (flFault l).1 (flFault l).2 ∧ Below w.heap.size w w' := by
  obtain ⟨s, n, c, rfl, hn, h1, h2, hg⟩ := hl.get
  rw [fcells_len] at hn
  obtain rfl : n = l.length := by omega
  have B0 := Lib.hid (below_box w (.slice s l.length c) 33)
  have key := flchecked_any E (l.map PF.chk) 133 #[.pointer (some ⟨w.heap.size, 0, none⟩)] enterChk (w.alloc (.cells #[.slice s l.length c] 33)) (by simpa using hlen)
    (fun x hx => by obtain ⟨f, hf, rfl⟩ := List.mem_map.1 hx; exact (hd f hf).1)
    (fun W k hk hb => by
      have hk' : k < l.length := by simpa using hk
      have := chk1_any l (.slice s l.length c) w.heap.size k W hk' ((hb.cell (p := ⟨w.heap.size, 0, none⟩) (by simp)).trans (by simp)) ((hl.below B0.out).below hb) hd
      simpa [PF.chk] using this)
    (hB.below B0.out) (hN.below B0.out) (hF.below B0.out) (hO.below B0.out)
  rw [List.length_map] at key
  have KEY := Lib.hid key
  have HFF := Lib.hid (show flFault l = lnFault (l.map PF.chk) from rfl)
  unfold maxLen at h2
  clear key hl hg hB hN hF hO
  go_enter Tryz.func96, Tryz.ntmps96
  go_wp2_with fail
  refine KEY.out.mono ?_
  rintro e w1 ⟨r, rfl, fe, b1⟩
  have BB := Lib.hid (below_trans' B0.out b1)
  have FE := Lib.hid fe
  clear fe b1 KEY
  go_wp2_with fail
  go_ret
  exact ⟨_, rfl, by rw [HFF.out]; exact FE.out, BB.out⟩

/-- lines, as cells -/
def PL.vals (x : PL) : List Value := [.string (bs x.n), .int .i64 x.N, .int .u32 x.S]
def lcells (l : List PL) : List Value := l.flatMap PL.vals
theorem lcells_nil : lcells [] = [] := rfl
theorem lcells_cons (x : PL) (l : List PL) : lcells (x :: l) = [.string (bs x.n), .int .i64 x.N, .int .u32 x.S] ++ lcells l := rfl
theorem lcells_append (l m : List PL) : lcells (l ++ m) = lcells l ++ lcells m := by unfold lcells; exact List.flatMap_append
theorem lcells_one (x : PL) : lcells [x] = [.string (bs x.n), .int .i64 x.N, .int .u32 x.S] := rfl
theorem lcells_len (l : List PL) : (lcells l).length = l.length * 3 := by
  induction l with
  | nil => rfl
  | cons k l ih => rw [lcells_cons, List.length_append, ih]; simp; omega
theorem lcells_get (l : List PL) (k : Nat) (h : k < l.length) : (lcells l)[k * 3]? = some (.string (bs l[k].n)) ∧ (lcells l)[k * 3 + 1]? = some (.int .i64 l[k].N) ∧ (lcells l)[k * 3 + 2]? = some (.int .u32 l[k].S) := by
  induction l generalizing k with
  | nil => simp at h
  | cons o l ih =>
    rw [lcells_cons]
    match k with
    | 0 => exact ⟨rfl, rfl, rfl⟩
    | k + 1 =>
      obtain ⟨h1, h2, h3⟩ := ih k (by simpa using h)
      refine ⟨?_, ?_, ?_⟩
      · rw [show (k + 1) * 3 = 3 + k * 3 by omega]; rw [List.getElem?_append_right (by simp)]; simpa using h1
      · rw [show (k + 1) * 3 + 1 = 3 + (k * 3 + 1) by omega]; rw [List.getElem?_append_right (by simp)]; simpa using h2
      · rw [show (k + 1) * 3 + 2 = 3 + (k * 3 + 2) by omega]; rw [List.getElem?_append_right (by simp)]; simpa using h3
theorem enterLns : ∀ args w, (callFunc 184 args).run Tryz.prog w = .ok (.enter 184 args) w := enters_of Tryz.func184 (by kernel_rfl) rfl
set_option maxRecDepth 100000 in
set_option maxHeartbeats 3200000 in
theorem lns1_any (l : List PL) (v : Value) (b k : Nat) (w : World) (hk : k < l.length) (hc : w.cell? ⟨b, 0, none⟩ = some v) (hl : SliceIs w v 3 (lcells l)) :
    Calls Tryz.prog 184 #[.int .i64 k, .pointer (some ⟨b, 0, none⟩)] w fun e w' => e = .returned (.agg #[.string (bs l[k].n), .int .i64 l[k].N, .int .u32 l[k].S]) ∧ Below w.heap.size w w' := by
  have hb : b < w.heap.size := World.block_lt_of_cell? w _ hc
  have hne : b ≠ w.heap.size := by omega
  obtain ⟨s, n, c, rfl, hn, h1, h2, hg⟩ := hl.get
  rw [lcells_len] at hn
  obtain ⟨g2, g3, g4⟩ := lcells_get l k hk
  obtain ⟨ad, rfl, d0⟩ := hg _ _ g2
  obtain ⟨a', e', d1⟩ := hg _ _ g3
  cases e'
  obtain ⟨a', e', d2⟩ := hg _ _ g4
  cases e'
  generalize l[k] = f at *
  have d1 := cell_at d1
  have d2 := cell_at d2
  have x1 : (0 : Int) ≤ k := by omega
  have x2 : (k : Int).toNat = k := by omega
  have x3 : (k : Int) < n := by omega
  unfold maxLen at h2
  have hlt := World.block_lt_of_cell? w _ d0
  have HBD := Lib.hid (wb_alloc w (.cells #[.string (bs f.n), .int .i64 f.N, .int .u32 f.S] 179))
  clear hl hg g2 g3 g4
  go_enter Tryz.func184, Tryz.ntmps184
  go_wp2_with fail
  go_returns
  exact ⟨rfl, HBD.out⟩
set_option maxRecDepth 100000 in
set_option maxHeartbeats 3200000 in
theorem fllines_any (E : Nat → Addr) (l : List PL) (v : Value) (w : World) (hl : SliceIs w v 3 (lcells l)) (hd : ∀ x ∈ l, x.n.length ≤ maxLen) (hlen : l.length ≤ 1000000000) (hB : Has E w 2) (hN : Has E w 5) (hF : Has E w 8) (hO : Has E w 9) :
    Calls Tryz.prog 147 #[v] w fun e w' => ∃ r, e = .returned r ∧ FErr E w' r (lnFault l).1 (lnFault l).2 ∧ Below w.heap.size w w' := by
  obtain ⟨s, n, c, rfl, hn, h1, h2, hg⟩ := hl.get
  rw [lcells_len] at hn
  obtain rfl : n = l.length := by omega
  have B0 := Lib.hid (below_box w (.slice s l.length c) 175)
  have key := flchecked_any E l 184 #[.pointer (some ⟨w.heap.size, 0, none⟩)] enterLns (w.alloc (.cells #[.slice s l.length c] 175)) hlen hd
    (fun W k hk hb => lns1_any l (.slice s l.length c) w.heap.size k W hk ((hb.cell (p := ⟨w.heap.size, 0, none⟩) (by simp)).trans (by simp)) ((hl.below B0.out).below hb))
    (hB.below B0.out) (hN.below B0.out) (hF.below B0.out) (hO.below B0.out)
  have KEY := Lib.hid key
  unfold maxLen at h2
  clear key hl hg hB hN hF hO
  go_enter Tryz.func147, Tryz.ntmps147
  go_wp2_with fail
  refine KEY.out.mono ?_
  rintro e w1 ⟨r, rfl, fe, b1⟩
  have BB := Lib.hid (below_trans' B0.out b1)
  have FE := Lib.hid fe
  clear fe b1 KEY
  go_wp2_with fail
  go_ret
  exact ⟨_, rfl, FE.out, BB.out⟩

/-! ### Get -/
theorem fget_yes {l : List PF} {n : List UInt8} {k : Nat} (h : k < l.length) (e : l[k].n = n) : fgetL (l.drop k) n = some l[k].d := by
  unfold fgetL; rw [List.drop_eq_getElem_cons h, List.find?_cons_of_pos (by simp [e])]; rfl
theorem fget_no {l : List PF} {n : List UInt8} {k : Nat} (h : k < l.length) (e : l[k].n ≠ n) : fgetL (l.drop k) n = fgetL (l.drop (k + 1)) n := by
  unfold fgetL; rw [List.drop_eq_getElem_cons h, List.find?_cons_of_neg (by simp [e])]
theorem fget_end {l : List PF} {n : List UInt8} {k : Nat} (h : l.length ≤ k) : fgetL (l.drop k) n = none := by rw [List.drop_of_length_le h]; rfl
theorem fget_start (l : List PF) (n : List UInt8) : fgetL l n = fgetL (l.drop 0) n := rfl
set_option maxRecDepth 100000 in
set_option maxHeartbeats 3200000 in
theorem flget_any (l : List PF) (v : Value) (n : List UInt8) (w : World) (hl : SliceIs w v 2 (fcells l)) :
    Calls Tryz.prog 103 #[v, .string (bs n)] w fun e w' => e = .returned (.tuple #[.string (bs ((fgetL l n).getD [])), .bool (fgetL l n).isSome]) ∧ Below w.heap.size w w' := by
  obtain ⟨s, m, c, rfl, hn, h1, h2, hg⟩ := hl.get
  rw [fcells_len] at hn
  obtain rfl : m = l.length := by omega
  unfold maxLen at h2
  have HSL := Lib.hid hl
  have HS := Lib.hid (fget_start l n)
  generalize fgetL l n = r at *
  clear hl hg
  go_enter Tryz.func103, Tryz.ntmps103
  go_wp2_with fail
  go_loopw [10, 7] (fun i _ wr => ∃ k : Nat, i = .int .i64 k ∧ k ≤ l.length ∧ r = fgetL (l.drop k) n ∧ Below w.heap.size w wr) (fun i _ _ => l.length - (intOf i).toNat)
  case atStart => exact ⟨0, rfl, by omega, HS.out, Below.refl _ _⟩
  case round =>
    obtain ⟨k, rfl, hk, hr, bel⟩ := hrel
    have HR := Lib.hid hr
    clear hr
    by_cases hlt : k < l.length
    · have hltI : (k : Int) < l.length := by omega
      obtain ⟨s0', n0', c0', e1, _, _, _, g1⟩ := (HSL.out.below bel).get
      cases e1
      obtain ⟨g2, g3⟩ := fcells_get l k hlt
      obtain ⟨ad, rfl, d0⟩ := g1 _ _ g2
      obtain ⟨a', e', d1⟩ := g1 _ _ g3
      cases e'
      clear g1 g2 g3
      have YES := Lib.hid (fun h => HR.out.trans (fget_yes (n := n) hlt h))
      have NO := Lib.hid (fun h => HR.out.trans (fget_no (n := n) hlt h))
      have KK := Lib.hid (show k + 1 ≤ l.length by omega)
      have x1 : (0 : Int) ≤ k := by omega
      have x2 : (k : Int).toNat = k := by omega
      generalize l[k] = x at d0 d1 YES NO
      have d1 := cell_at d1
      by_cases hx : x.n = n
      · have hb : ((bs x.n).toList == (bs n).toList) = true := by rw [bs_tl', bs_tl']; simpa using hx
        have Y := Lib.hid (YES.out hx)
        clear YES NO hx
        go_wp2_with fail
        go_ret2
        exact ⟨by rw [Y.out]; rfl, bel.alloc bel.size _⟩
      · have hb : ((bs x.n).toList == (bs n).toList) = false := by rw [bs_tl', bs_tl']; simpa using hx
        have Y := Lib.hid (NO.out hx)
        clear YES NO hx
        go_wp2_with fail
        go_roundw
        case rel => exact ⟨k + 1, by go_num, KK.out, Y.out, bel.alloc bel.size _⟩
        case measure => simp [intOf]; omega
    · have hltI : ¬ (k : Int) < l.length := by omega
      have Y := Lib.hid (HR.out.trans (fget_end (n := n) (by omega : l.length ≤ k)))
      go_wp2_with fail
      go_ret2
      exact ⟨by rw [Y.out, show (none : Option (List UInt8)).getD [] = [] from rfl, show bs [] = ⟨#[]⟩ by unfold bs; rfl]; rfl, bel⟩
end Go.Proofs.YtppkeophochgiaaGreatDoor
/- Contracts of OwnFiles, LongFiles, slices.Clone at files, files.Drop, files.find. -/
namespace Go.Proofs.YtppkeophochgiaaGreatDoor
open Go.RowKit
set_option linter.unusedVariables false

theorem infoFile : (Tryz.prog.info? 130).map (fun i => (i.zero, i.size, i.bytes)) = some (some (.agg #[.string ⟨#[]⟩, .string ⟨#[]⟩]), 2, 32) := by kernel_rfl
theorem own_first {w : World} {base : Nat} {e : TypeId} {size : Nat} {v : Value} {m : Nat} {xs : List Value} (h : w.ownsRow base e size v (0 + m) ([] ++ xs)) : w.ownsRow base e size v m xs := by simpa using h
theorem below_first {w w' : World} (h : w.grownBy w' (Value.ownBlock (.slice none 0 0))) : Below w.heap.size w w' := ⟨h.os, h.tape, h.output, h.size, fun k hk => h.block k hk (by simp [Value.ownBlock])⟩
set_option maxRecDepth 100000 in
set_option maxHeartbeats 1600000 in
theorem flclone_any (l : List PF) (v : Value) (w : World) (hl : SliceIs w v 2 (fcells l)) (hlen : l.length ≤ 1000000) :
    Calls Tryz.prog 97 #[v] w fun e w' => ∃ r, e = .returned r ∧ w'.ownsRow w.heap.size 130 2 r l.length (fcells l) ∧ Below w.heap.size w w' := by
  obtain ⟨i0, hi, hz0, hz1, hz2⟩ := info_parts infoFile
  have HL := Lib.hid hl
  have LEN := Lib.hid (fcells_len l)
  obtain ⟨s, n, c, rfl, hn, _⟩ := hl.get
  have hnl : l.length = n := by rw [fcells_len] at hn; omega
  cases s with
  | none =>
    obtain ⟨rfl, rfl⟩ : n = 0 ∧ c = 0 := by
      rcases hl with ⟨h, _⟩ | ⟨a, len, cap, h, _⟩
      · cases h; exact ⟨rfl, rfl⟩
      · cases h
    have he : l = [] := List.eq_nil_of_length_eq_zero (by omega)
    have HO := Lib.hid (World.ownsRow_nil w w.heap.size 130 2)
    subst he
    have HB := Lib.hid (Below.refl w.heap.size w)
    have hq : ∀ w, (binOp .eql 33 (.slice none 0 0) (.slice none 0 0)).run Tryz.prog w = .ok (.bool true) w := fun w => Lib.run_eql_slice_nil w _ _ none 0 0 0 0 Tryz.underlying33
    clear hl hn hnl
    go_enter Tryz.func97, Tryz.ntmps97
    go_wp2_with fail
    go_ret
    exact ⟨_, rfl, HO.out, HB.out⟩
  | some a =>
    have hq : ∀ w, (binOp .eql 33 (.slice (some a) n c) (.slice none 0 0)).run Tryz.prog w = .ok (.bool false) w := fun w => Lib.run_eql_slice_nil w _ _ (some a) n c 0 0 Tryz.underlying33
    have HN1 : Hid (0 + l.length ≤ maxLen) := by show _ ≤ _; unfold maxLen; omega
    have HN2 : Hid ((0 + l.length) * 32 ≤ 140737488355328) := by show _ ≤ _; omega
    have SR := Lib.hid (HL.out.below (wb_alloc w (.cells #[] 130)))
    have OM := Lib.hid (World.ownsRow_made (base := w.heap.size) (e := 130) (size := 2) (w := w) #[] 0 (Nat.le_refl _) (by decide) rfl)
    have B1 := Lib.hid (wb_alloc w (.cells #[] 130))
    clear hl hn hnl
    go_enter Tryz.func97, Tryz.ntmps97
    go_wp2_with (at_builtin; refine wpList_append_is rfl _ _ 33 rfl w.heap.size 130 i0 _ 2 32 Tryz.underlying33 hi hz0 hz1 hz2 rfl (by decide) (.slice (some ⟨w.heap.size, 0, none⟩) 0 0) 0 [] rfl OM.out _ l.length _ rfl SR.out LEN.out (fcells_cell l) HN1.out HN2.out B1.out.size ?_; intro v' w5 hown hgrow _; have HO := Lib.hid (own_first hown); have HB := Lib.hid (B1.out.grown hgrow B1.out.size (fun j hj => by simp [Value.ownBlock] at hj; omega)); clear hown hgrow)
    go_ret
    exact ⟨_, rfl, HO.out, HB.out⟩
end Go.Proofs.YtppkeophochgiaaGreatDoor
/- Contracts of files.List, and of the statements' LongFiles. -/
namespace Go.Proofs.YtppkeophochgiaaGreatDoor
open Go.RowKit
set_option linter.unusedVariables false

def PF.line (f : PF) : PL := ⟨f.n, f.d.length, csum f.d⟩
theorem infoLine : (Tryz.prog.info? 179).map (fun i => (i.zero, i.size, i.bytes)) = some (some (.agg #[.string ⟨#[]⟩, .int .i64 0, .int .u32 0]), 3, 32) := by kernel_rfl
theorem three_newsL {w : World} {b : Nat} {u0 u1 u2 : Value} {t : TypeId} (h : w.heap[b]? = some (.cells #[u0, u1, u2] t (0, 0))) : ∀ j u', [u0, u1, u2][j]? = some u' → w.cell? ((⟨b, 0, none⟩ : Addr).add j) = some u' := by
  intro j u' hj
  match j, hj with
  | 0, hj => simp at hj; subst hj; simp [World.cell?, h, Addr.add]
  | 1, hj => simp at hj; subst hj; simp [World.cell?, h, Addr.add]
  | 2, hj => simp at hj; subst hj; simp [World.cell?, h, Addr.add]
set_option maxRecDepth 100000 in
set_option maxHeartbeats 6400000 in
theorem fllist_yes (E : Nat → Addr) (l : List PF) (v : Value) (w : World) (hl : SliceIs w v 2 (fcells l)) (hd : FOk l) (hB : Has E w 2) (hN : Has E w 5) (hF : Has E w 8) (hO : Has E w 9) (hf : FWF l) :
    Calls Tryz.prog 105 #[v] w fun e w' => ∃ r, e = .returned (.tuple #[r, .nilIface]) ∧ w'.ownsRow w.heap.size 179 3 r l.length (lcells (l.map PF.line)) ∧ Below w.heap.size w w' := by
  have hfew := hf.few
  have CK := Lib.hid (flcheck_any E l v w hl hd (by omega) hB hN hF hO)
  have HF0 := Lib.hid ((flFault_wf l).2 hf)
  have HE := Lib.hid hf.each
  obtain ⟨s, m, c, rfl, hn, h1, h2, hg⟩ := hl.get
  rw [fcells_len] at hn
  obtain rfl : m = l.length := by omega
  unfold maxLen at h2
  have HSL := Lib.hid hl
  obtain ⟨i0, hi, hz0, hz1, hz2⟩ := info_parts infoLine
  clear hl hB hN hF hO hf hg
  go_enter Tryz.func105, Tryz.ntmps105
  go_wp2_with fail
  refine CK.out.mono ?_
  rintro e w1 ⟨r, rfl, fe, b1⟩
  rw [HF0.out] at fe
  obtain rfl := fe.zero
  have B1 := Lib.hid b1
  clear fe b1 CK
  go_wp2_with fail
  go_loopw [15, 5, 7] (fun i o _ wr => ∃ k : Nat, i = .int .i64 k ∧ k ≤ l.length ∧ wr.ownsRow w.heap.size 179 3 o k (lcells ((l.take k).map PF.line)) ∧ Below w.heap.size w wr) (fun i _ _ _ => l.length - (intOf i).toNat)
  case atStart => exact ⟨0, rfl, by omega, World.ownsRow_nil _ _ _ _, B1.out⟩
  case round =>
    obtain ⟨k, rfl, hk, hown, bel⟩ := hrel
    by_cases hlt : k < l.length
    · have hltI : (k : Int) < l.length := by omega
      obtain ⟨s0', n0', c0', e1, _, _, _, g1⟩ := (HSL.out.below bel).get
      cases e1
      obtain ⟨g2, g3⟩ := fcells_get l k hlt
      obtain ⟨ad, rfl, d0⟩ := g1 _ _ g2
      obtain ⟨a', e', d1⟩ := g1 _ _ g3
      cases e'
      clear g1 g2 g3
      have NX := Lib.hid (show lcells ((l.take (k + 1)).map PF.line) = lcells ((l.take k).map PF.line) ++ [.string (bs l[k].n), .int .i64 (l[k].d.length : Int), .int .u32 (csum l[k].d)] by
        rw [List.take_succ_eq_append_getElem hlt, List.map_append, lcells_append]; rfl)
      have hdl := (HE.out l[k] (List.getElem_mem _)).2
      have KK := Lib.hid (show k + 1 ≤ l.length by omega)
      have x1 : (0 : Int) ≤ k := by omega
      have x2 : (k : Int).toNat = k := by omega
      generalize l[k] = x at d0 d1 NX hdl
      have d1 := cell_at d1
      have hsz : (bs x.d).size = x.d.length := bs_size _
      have SM := Lib.hid (fun w' => sum_any (bs x.d) w' (by rw [bs_size]; omega))
      simp only [bs_list] at SM
      have HSZ := Lib.hid bel.size
      have HO := Lib.hid hown
      have HN1 : Hid (k + 1 ≤ maxLen) := by show _ ≤ _; unfold maxLen; omega
      have HN2 : Hid ((k + 1) * 32 ≤ 140737488355328) := by show _ ≤ _; omega
      obtain ⟨va, vc, rfl⟩ := owns_slice hown
      have BA := Lib.hid (bel.alloc bel.size (.cells #[.string (bs x.n), .string (bs x.d)] 130))
      have HOA := Lib.hid (HO.out.alloc (.cells #[.string (bs x.n), .string (bs x.d)] 130))
      clear hown
      go_wp2_with fail
      have q0 : (wr.alloc (.cells #[.string (bs x.n), .string (bs x.d)] 130)).cell? ⟨wr.heap.size, 0, none⟩ = some (.string (bs x.n)) := by simp
      have q1 : (wr.alloc (.cells #[.string (bs x.n), .string (bs x.d)] 130)).cell? ⟨wr.heap.size, 1, none⟩ = some (.string (bs x.d)) := by simp
      have hws : wr.heap.size < (wr.alloc (.cells #[.string (bs x.n), .string (bs x.d)] 130)).heap.size := by simp
      generalize wr.alloc (.cells #[.string (bs x.n), .string (bs x.d)] 130) = W0 at *
      have HN3 := Lib.hid (fun (o : Obj) => show w.heap.size ≤ ((W0.alloc o).drew).heap.size by have := BA.out.size; simp; omega)
      go_region_law (first | (refine step_append_own rfl (.tmp 19) (.tmp 29) 175 rfl w.heap.size 179 i0 _ 3 32 Tryz.underlying175 hi hz0 hz1 hz2 rfl (by decide) (.slice va k vc) k _ rfl (HOA.out.alloc _).drew ⟨W0.heap.size, 0, none⟩ 1 1 [.string (bs x.n), .int .i64 (x.d.length : Int), .int .u32 (csum x.d)] rfl rfl (three_newsL (heap_alloc_new _ _)) (fun u hu => by simp at hu; rcases hu with rfl | rfl | rfl <;> rfl) HN1.out HN2.out (HN3.out _) ?_; intro v' w5 hown5 hgrow _; have HO5 := Lib.hid hown5; have HG5 := Lib.hid (grown_undrew hgrow)) | (go_simp; go_at_call 121; refine (SM.out _).mono ?_; rintro e w' ⟨rfl, rfl⟩))
      all_goals
        go_wp2_with fail
        go_roundw
        case rel => exact ⟨k + 1, by go_num, KK.out, by rw [NX.out]; exact HO5.out, (BA.out.alloc BA.out.size _).grown HG5.out (by have := BA.out.size; simp; omega) (fun j hj => (HO.out.lt j hj).1)⟩
        case measure => simp [intOf]; omega
    · have hltI : ¬ (k : Int) < l.length := by omega
      have HEQ := Lib.hid (show l.take k = l from List.take_of_length_le (by omega))
      obtain rfl : k = l.length := by omega
      rw [HEQ.out] at hown
      go_wp2_with fail
      go_ret2
      exact ⟨_, rfl, hown, bel⟩
end Go.Proofs.YtppkeophochgiaaGreatDoor
/- Contract of files.Text. -/
namespace Go.Proofs.YtppkeophochgiaaGreatDoor
open Go.RowKit
set_option linter.unusedVariables false

def lnText (l : List PL) : List UInt8 := l.flatMap fun x => (num x.n.length ++ x.n) ++ num x.N.toNat ++ num x.S
theorem lnText_nil : lnText [] = [] := rfl
theorem lnText_append (a b : List PL) : lnText (a ++ b) = lnText a ++ lnText b := by simp [lnText]
theorem lnText_one (x : PL) : lnText [x] = (num x.n.length ++ x.n) ++ num x.N.toNat ++ num x.S := by simp [lnText]
theorem lnText_cons (x : PL) (l : List PL) : lnText (x :: l) = (num x.n.length ++ x.n) ++ num x.N.toNat ++ num x.S ++ lnText l := by simp [lnText]
theorem lnText_len (l : List PL) (h : ∀ x ∈ l, x.n.length ≤ 12) : (lnText l).length ≤ 40 * l.length := by
  induction l with
  | nil => simp [lnText]
  | cons x l ih =>
    rw [lnText_cons]
    have := num_len x.n.length
    have := num_len x.N.toNat
    have := num_len x.S
    have := h x (by simp)
    have := ih (fun y hy => h y (List.mem_cons_of_mem _ hy))
    simp only [List.length_append, List.length_cons]
    omega
def flText (l : List PL) : List UInt8 := num l.length ++ lnText l
theorem flText_is (l : List PL) : flText l = num l.length ++ lnText l := rfl
attribute [irreducible] lnText flText
set_option maxRecDepth 100000 in
set_option maxHeartbeats 6400000 in
theorem fltext_yes (E : Nat → Addr) (l : List PL) (v : Value) (w : World) (hl : SliceIs w v 3 (lcells l)) (hS : ∀ b ∈ l, b.S < 4294967296) (hB : Has E w 2) (hN : Has E w 5) (hF : Has E w 8) (hO : Has E w 9)
    (hok : LWF l) :
    Calls Tryz.prog 223 #[v] w fun e w' => e = .returned (.tuple #[.string (bs (flText l)), .nilIface]) ∧ Below w.heap.size w w' := by
  have hfew := hok.few
  have HEA := Lib.hid (fun (x : PL) (hx : x ∈ l) => (show nameB x.n = true ∧ 0 ≤ x.N ∧ x.N ≤ 4000 ∧ x.n.length ≤ 12 from have h := hok.each x hx; ⟨h.1, h.2.1, h.2.2, ((nameB_iff _).1 h.1).2.1⟩))
  have CH := fllines_any E l v w hl (fun x hx => by have := (HEA.out x hx).2.2.2; unfold maxLen; omega) (by omega) hB hN hF hO
  rw [(lnFault_wf l).2 hok] at CH
  obtain ⟨s0, n0, c0, rfl, hn, h1, h2, hg⟩ := hl.get
  rw [lcells_len] at hn
  obtain rfl : n0 = l.length := by omega
  unfold maxLen at h2
  have HLS := Lib.hid hl
  have HB := Lib.hid hB
  have HCH := Lib.hid CH
  have HSS := Lib.hid hS
  have HST := Lib.hid (flText_is l)
  have hfin := doneL_zero
  have HFIN := Lib.hid hfin
  have HEZ := Lib.hid (ev_zero E)
  clear hfin hl hB hN hF hO CH hS hok hg
  go_enter Tryz.func223, Tryz.ntmps223
  go_wp2_with fail
  refine HCH.out.mono ?_
  rintro e w1 ⟨v, rfl, fe, b1⟩
  rw [fe.zero]
  clear fe
  go_wp2_with fail
  have W0 := WAt.new E w1
  have bA := b1.alloc b1.size (.cells #[.slice none 0 0, .nilIface] 312)
  have hb : w.heap.size ≤ w1.heap.size := b1.size
  generalize w1.alloc (.cells #[.slice none 0 0, .nilIface] 312) = w2 at W0 bA ⊢
  generalize w1.heap.size = b at W0 hb ⊢
  clear b1
  refine (wnum_ok E b _ _ _ (by simp) W0 (HB.out.below bA) (by omega) (by omega)).mono ?_
  rintro e w4 ⟨rfl, W4, K4⟩
  have b4 := K4.old bA hb W0.lt
  clear K4 bA W0
  go_wp2_with fail
  go_loopw [21, 7] (fun i _ wr => ∃ k : Nat, i = .int .i64 k ∧ k ≤ l.length ∧ WAt E wr b (num l.length ++ lnText (l.take k)) 0 ∧ Below w.heap.size w wr) (fun i _ _ => l.length - (intOf i).toNat)
  case atStart => exact ⟨0, rfl, by omega, by simpa [lnText_nil] using W4, b4⟩
  case round =>
    clear W4 b4
    obtain ⟨k, rfl, hk, W, bel⟩ := hrel
    by_cases hlt : k < l.length
    · have hltI : (k : Int) < l.length := by omega
      obtain ⟨s0', n0', c0', e1, _, _, _, g1⟩ := (HLS.out.below bel).get
      cases e1
      obtain ⟨g2, g3, g4⟩ := lcells_get l k hlt
      obtain ⟨ad, rfl, d0⟩ := g1 _ _ g2
      obtain ⟨a', e', d1⟩ := g1 _ _ g3
      cases e'
      obtain ⟨a', e', d2⟩ := g1 _ _ g4
      cases e'
      clear g1 g2 g3 g4
      have KK := Lib.hid (show k + 1 ≤ l.length by omega)
      have x1 : (0 : Int) ≤ k := by omega
      have x2 : (k : Int).toNat = k := by omega
      have hea := HEA.out _ (List.getElem_mem hlt)
      have hs := HSS.out _ (List.getElem_mem hlt)
      have htk := Lib.hid (List.take_succ_eq_append_getElem hlt)
      have hlen := lnText_len (l.take k) (fun x hx => (HEA.out x (List.mem_of_mem_take hx)).2.2.2)
      have hlen2 : (l.take k).length ≤ 4000 := by simp; omega
      have hn2 := num_len l.length
      generalize l[k]'hlt = bk at d0 d1 d2 hea hs htk
      obtain ⟨bn, bN, bS⟩ := bk
      have d1 := cell_at d1
      have d2 := cell_at d2
      simp only [] at d0 d1 d2 hea hs
      obtain ⟨y1, y2, y3, y4⟩ := hea
      have hn3 := num_len bn.length
      have hn4 := num_len bN.toNat
      have hsz : (bs bn).size = bn.length := bs_size _
      have hgb : b < wr.heap.size := W.lt
      have W1 := W.below (below_alloc' wr (.cells #[.string (bs bn), .int .i64 bN, .int .u32 bS] 179))
      have bel1 := bel.alloc bel.size (.cells #[.string (bs bn), .int .i64 bN, .int .u32 bS] 179)
      have G1 : (wr.alloc (.cells #[.string (bs bn), .int .i64 bN, .int .u32 bS] 179)).heap[wr.heap.size]? = some (.cells #[.string (bs bn), .int .i64 bN, .int .u32 bS] 179 (0, 0)) := heap_alloc_new _ _
      go_wp2_with fail
      generalize wr.alloc (.cells #[.string (bs bn), .int .i64 bN, .int .u32 bS] 179) = v1 at W1 bel1 G1 ⊢
      generalize wr.heap.size = g at G1 hgb ⊢
      clear W bel
      refine (wtext_ok E b _ _ _ (by simp only [List.length_append]; omega) W1 (HB.out.below bel1) (by omega)).mono ?_
      rintro e v2 ⟨rfl, W2, K2⟩
      rw [bs_size, bs_list] at W2
      have bel2 := K2.old bel1 hb W1.lt
      have G2 := K2.obj G1 (by omega) (by decide)
      clear K2 bel1 W1 G1
      have f1 : v2.cell? ⟨g, 1, none⟩ = some (.int .i64 bN) := by simp [World.cell?, G2]
      go_wp2_with fail
      refine (wnum_ok E b _ _ _ (by simp only [List.length_append]; omega) W2 (HB.out.below bel2) (by omega) (by omega)).mono ?_
      rintro e v3 ⟨rfl, W3, K3⟩
      have bel3 := K3.old bel2 hb W2.lt
      have G3 := K3.obj G2 (by omega) (by decide)
      clear K3 bel2 W2 G2
      have f2 : v3.cell? ⟨g, 2, none⟩ = some (.int .u32 bS) := by simp [World.cell?, G3]
      go_wp2_with fail
      refine (wnum_ok E b _ _ _ (by simp only [List.length_append]; omega) W3 (HB.out.below bel3) (by omega) (by omega)).mono ?_
      rintro e v4 ⟨rfl, W4, K4⟩
      have bel4 := K4.old bel3 hb W3.lt
      clear K4 bel3 W3 G3
      go_wp2_with fail
      go_roundw
      case rel => exact ⟨k + 1, by go_num, KK.out, by rw [htk.out, lnText_append, lnText_one]; simpa [List.append_assoc] using W4, bel4⟩
      case measure => simp [intOf]; omega
    · have hltI : ¬ (k : Int) < l.length := by omega
      have htk : l.take k = l := List.take_of_length_le (by omega)
      rw [htk, ← HST.out] at W
      have D := wdone_any E b _ 0 wr (fun _ => by rw [HST.out]; have := num_pos l.length; simp; omega) W
      rw [HFIN.out, HEZ.out] at D
      have HD := Lib.hid D
      clear D htk W
      go_wp2_with fail
      refine HD.out.mono ?_
      rintro e w9 ⟨rfl, b9⟩
      go_wp2_with fail
      go_ret2
      exact ⟨rfl, below_trans' bel (b9.below _)⟩

end Go.Proofs.YtppkeophochgiaaGreatDoor
