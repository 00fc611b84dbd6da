/- Contracts of (*Sender).Kept, Data; slices.Index, slices.Contains at ints. -/
import Derived.Test.YtnjkopjbognpiaaDoorWinPush
namespace Go.Proofs.YtnjkopjbognpiaaDoor
open Go.RowKit
set_option linter.unusedVariables false

theorem infoInt : (Tryd.prog.info? 3).map (fun i => (i.zero, i.size, i.bytes)) = some (some (.int .i64 0), 1, 8) := by kernel_rfl
set_option maxRecDepth 100000 in
set_option maxHeartbeats 3200000 in
theorem kept_any (base sb : Nat) (v : Value) (next : Int) (l : List PK) (w : World) (h : SndAt w base sb v next l) (hlen : l.length ≤ 1000000) :
    Calls Tryd.prog 21 #[.pointer (some ⟨sb, 0, none⟩)] w fun e w' => ∃ r, e = .returned r ∧ w'.ownsRow w.heap.size 3 1 r l.length (l.map fun k => Value.int .i64 k.n) ∧ Below w.heap.size w w' := by
  obtain ⟨⟨c0, c1⟩, _⟩ := h.cs
  have HSL := Lib.hid (SliceIs.ownedK h.own)
  obtain ⟨va, vc, rfl⟩ := owns_slice h.own
  obtain ⟨i0, hi, hz0, hz1, hz2⟩ := info_parts infoInt
  clear h
  go_enter Tryd.func21, Tryd.ntmps21
  go_wp2_with fail
  go_loopw [11, 3, 5] (fun i o _ wr => ∃ k : Nat, i = .int .i64 k ∧ k ≤ l.length ∧ wr.ownsRow w.heap.size 3 1 o k ((l.take k).map fun k => Value.int .i64 k.n) ∧ Below w.heap.size w wr) (fun i _ _ _ => l.length - (intOf i).toNat)
  case atStart => exact ⟨0, rfl, by omega, World.ownsRow_nil _ _ _ _, Below.refl _ _⟩
  case round =>
    obtain ⟨k, rfl, hk, hown, bel⟩ := hrel
    by_cases hlt : k < l.length
    · have hltI : (k : Int) < l.length := by omega
      obtain ⟨s0', n0', c0', e1, _, _, _, g1⟩ := (HSL.out.below bel).get
      cases e1
      obtain ⟨g2, g3⟩ := kcells_get l k hlt
      obtain ⟨ad, rfl, d0⟩ := g1 _ _ g2
      obtain ⟨a', e', d1⟩ := g1 _ _ g3
      cases e'
      clear g1 g2 g3
      have NX := Lib.hid (show (l.take (k + 1)).map (fun k => Value.int .i64 k.n) = (l.take k).map (fun k => Value.int .i64 k.n) ++ [.int .i64 l[k].n] by rw [List.take_succ_eq_append_getElem hlt, List.map_append]; rfl)
      have KK := Lib.hid (show k + 1 ≤ l.length by omega)
      have x1 : (0 : Int) ≤ k := by omega
      have x2 : (k : Int).toNat = k := by omega
      generalize l[k] = x at d0 d1 NX
      have d1 := cell_at d1
      have HSZ := Lib.hid bel.size
      have HO := Lib.hid hown
      have HN1 : Hid (k + 1 ≤ maxLen) := by show _ ≤ _; unfold maxLen; omega
      have HN2 : Hid ((k + 1) * 8 ≤ 140737488355328) := by show _ ≤ _; omega
      have HN3 := Lib.hid (fun (o p : Obj) => show w.heap.size ≤ ((wr.alloc o).alloc p).heap.size by have := HSZ.out; simp; omega)
      clear hown
      go_wp2_with (at_builtin; refine wpList_append_own _ rfl _ _ 31 rfl w.heap.size 3 i0 _ 1 8 Tryd.underlying31 hi hz0 hz1 hz2 rfl (by decide) _ _ _ rfl ((HO.out.alloc _).alloc _) ⟨wr.heap.size + 1, 0, none⟩ 1 1 [.int .i64 x.n] rfl rfl (one_news (by simp)) (one_cell rfl) HN1.out HN2.out (HN3.out _ _) ?_; intro v' w5 hown5 hgrow _)
      have bel5 := (((bel.alloc bel.size (.cells #[.int .i64 x.n, .string (bs x.d)] 68)).alloc (by have := bel.size; simp; omega) (.cells #[.int .i64 x.n] 3)).grown hgrow (by have := bel.size; simp; omega) (fun j hj => (HO.out.lt j hj).1))
      go_roundw
      case rel => exact ⟨k + 1, by go_num, KK.out, by rw [NX.out]; exact hown5, bel5⟩
      case measure => simp [intOf]; omega
    · have hltI : ¬ (k : Int) < l.length := by omega
      have HE := Lib.hid (show l.take k = l from List.take_of_length_le (by omega))
      have HK := Lib.hid (show k = l.length by omega)
      go_wp2_with fail
      go_ret
      rw [HE.out, HK.out] at hown
      exact ⟨_, rfl, hown, bel⟩
def dataS (l : List PK) (n : Int) : Option (List UInt8) := (l.find? fun k => k.n == n).map PK.d
theorem dataS_yes {l : List PK} {n : Int} {k : Nat} (h : k < l.length) (e : l[k].n = n) : dataS (l.drop k) n = some l[k].d := by
  unfold dataS; rw [List.drop_eq_getElem_cons h, List.find?_cons_of_pos (by simp [e])]; rfl
theorem dataS_no {l : List PK} {n : Int} {k : Nat} (h : k < l.length) (e : l[k].n ≠ n) : dataS (l.drop k) n = dataS (l.drop (k + 1)) n := by
  unfold dataS; rw [List.drop_eq_getElem_cons h, List.find?_cons_of_neg (by simp [e])]
theorem dataS_end {l : List PK} {n : Int} {k : Nat} (h : l.length ≤ k) : dataS (l.drop k) n = none := by rw [List.drop_of_length_le h]; rfl
theorem dataS_nil (n : Int) : dataS [] n = none := rfl
theorem dataS_start (l : List PK) (n : Int) : dataS l n = dataS (l.drop 0) n := rfl
attribute [irreducible] dataS
set_option maxRecDepth 100000 in
set_option maxHeartbeats 3200000 in
theorem data_any (base sb : Nat) (v : Value) (next : Int) (l : List PK) (n : Int) (w : World) (h : SndAt w base sb v next l) (hlen : l.length ≤ 1000000) :
    Calls Tryd.prog 22 #[.pointer (some ⟨sb, 0, none⟩), .int .i64 n] w fun e w' => e = .returned (.tuple #[.string (bs ((dataS l n).getD [])), .bool (dataS l n).isSome]) ∧ Below w.heap.size w w' := by
  obtain ⟨⟨c0, c1⟩, _⟩ := h.cs
  have HSL := Lib.hid (SliceIs.ownedK h.own)
  obtain ⟨va, vc, rfl⟩ := owns_slice h.own
  have HS := Lib.hid (dataS_start l n)
  generalize dataS l n = r at *
  clear h
  go_enter Tryd.func22, Tryd.ntmps22
  go_wp2_with fail
  go_loopw [13, 7] (fun i _ wr => ∃ k : Nat, i = .int .i64 k ∧ k ≤ l.length ∧ r = dataS (l.drop k) n ∧ Below w.heap.size w wr) (fun i _ _ => l.length - (intOf i).toNat)
  case atStart => exact ⟨0, rfl, by omega, HS.out, Below.refl _ _⟩
  case round =>
    obtain ⟨k, rfl, hk, hr, bel⟩ := hrel
    have HR := Lib.hid hr
    clear hr
    by_cases hlt : k < l.length
    · have hltI : (k : Int) < l.length := by omega
      obtain ⟨s0', n0', c0', e1, _, _, _, g1⟩ := (HSL.out.below bel).get
      cases e1
      obtain ⟨g2, g3⟩ := kcells_get l k hlt
      obtain ⟨ad, rfl, d0⟩ := g1 _ _ g2
      obtain ⟨a', e', d1⟩ := g1 _ _ g3
      cases e'
      clear g1 g2 g3
      have YES := Lib.hid (fun h => HR.out.trans (dataS_yes (n := n) hlt h))
      have NO := Lib.hid (fun h => HR.out.trans (dataS_no (n := n) hlt h))
      have KK := Lib.hid (show k + 1 ≤ l.length by omega)
      have x1 : (0 : Int) ≤ k := by omega
      have x2 : (k : Int).toNat = k := by omega
      generalize l[k] = x at d0 d1 YES NO
      have d1 := cell_at d1
      by_cases hx : x.n = n
      · have hb : (x.n == n) = true := by simpa using hx
        have Y := Lib.hid (YES.out hx)
        clear YES NO hx
        go_wp2_with fail
        go_ret2
        exact ⟨by rw [Y.out]; rfl, bel.alloc bel.size _⟩
      · have hb : (x.n == n) = false := by simpa using hx
        have Y := Lib.hid (NO.out hx)
        clear YES NO hx
        go_wp2_with fail
        go_roundw
        case rel => exact ⟨k + 1, by go_num, KK.out, Y.out, bel.alloc bel.size _⟩
        case measure => simp [intOf]; omega
    · have hltI : ¬ (k : Int) < l.length := by omega
      have Y := Lib.hid (HR.out.trans (dataS_end (n := n) (by omega : l.length ≤ k)))
      go_wp2_with fail
      go_ret2
      exact ⟨by rw [Y.out, show (none : Option (List UInt8)).getD [] = [] from rfl, show bs [] = ⟨#[]⟩ by unfold bs; rfl]; rfl, bel⟩

set_option maxRecDepth 100000 in
set_option maxHeartbeats 3200000 in
theorem index_any (s : Option Addr) (n c : Nat) (l : List Int) (x : Int) (w : World) (hl : SliceIs w (.slice s n c) 1 (l.map (Value.int .i64))) :
    Calls Tryd.prog 36 #[.slice s n c, .int .i64 x] w fun e w' => e = .returned (.int .i64 (ixI 0 (fun y => y == x) l)) ∧ w = w' := by
  obtain ⟨s0, n0, c0, e0, e1, e2, e3, g1⟩ := hl.get
  cases e0
  obtain rfl : n = l.length := by simpa using e1.symm
  have G := Lib.hid g1
  unfold maxLen at e3
  have HI := Lib.hid (ixI_start (fun y => y == x) l)
  generalize ixI 0 (fun y => y == x) l = r at *
  clear hl g1 e1
  go_enter Tryd.func36, Tryd.ntmps36
  go_wp2_with fail
  go_loop [8, 5] (fun i _ => ∃ k : Nat, i = .int .i64 k ∧ k ≤ l.length ∧ r = ixI k (fun y => y == x) (l.drop k)) (fun i _ => l.length - (intOf i).toNat)
  case atStart => exact ⟨0, rfl, by omega, HI.out⟩
  case round =>
    obtain ⟨k, rfl, hk, hr⟩ := hrel
    have HR := Lib.hid hr
    clear hr
    by_cases hlt : k < l.length
    · have hltI : (k : Int) < l.length := by omega
      obtain ⟨ad, rfl, d0⟩ := G.out k (.int .i64 l[k]) (by simp)
      have YES := Lib.hid (fun h => HR.out.trans (ixI_yes (p := fun y => y == x) hlt h))
      have NO := Lib.hid (fun h => HR.out.trans (ixI_no (p := fun y => y == x) hlt h))
      have KK := Lib.hid (show k + 1 ≤ l.length by omega)
      have x1 : (0 : Int) ≤ k := by omega
      have x2 : (k : Int).toNat = k := by omega
      generalize l[k] = y at d0 YES NO
      by_cases hx : y = x
      · have hb : (x == y) = true := by simpa using hx.symm
        have Y := Lib.hid (YES.out (by simpa using hx))
        clear YES NO hx
        go_wp2_with fail
        go_ret
        exact ⟨by rw [Y.out]; rfl, rfl⟩
      · have hb : (x == y) = false := by simpa using fun h => hx h.symm
        have Y := Lib.hid (NO.out (by simpa using hx))
        clear YES NO hx
        go_wp2_with fail
        go_round
        case rel => exact ⟨k + 1, by go_num, KK.out, Y.out⟩
        case measure => simp [intOf]; omega
    · have hltI : ¬ (k : Int) < l.length := by omega
      have Y := Lib.hid (HR.out.trans (ixI_end (p := fun y => y == x) (by omega : l.length ≤ k)))
      go_wp2_with fail
      go_ret
      exact ⟨by rw [Y.out]; rfl, rfl⟩
theorem ixI_contains (l : List Int) (x : Int) : decide (0 ≤ ixI 0 (fun y => y == x) l) = l.contains x := by
  rcases ixI_spec (fun y => y == x) l with ⟨h, ha⟩ | ⟨j, hj, h, hp, _⟩
  · rw [h]
    symm
    cases hc : l.contains x with
    | false => rfl
    | true =>
      have := ha x (by simpa using hc)
      simp at this
  · rw [h]
    have hx : l[j] = x := by simpa using hp
    have : l.contains x = true := by simp [← hx]
    rw [this]; simp
set_option maxRecDepth 100000 in
set_option maxHeartbeats 1600000 in
theorem contains_any (s : Option Addr) (n c : Nat) (l : List Int) (x : Int) (w : World) (hl : SliceIs w (.slice s n c) 1 (l.map (Value.int .i64))) :
    Calls Tryd.prog 31 #[.slice s n c, .int .i64 x] w fun e w' => e = .returned (.bool (l.contains x)) ∧ w = w' := by
  have IX := Lib.hid (index_any s n c l x w hl)
  have HC := Lib.hid (ixI_contains l x)
  generalize ixI 0 (fun y => y == x) l = r at *
  generalize l.contains x = b at *
  clear hl
  by_cases h : 0 ≤ r
  · go_enter Tryd.func31, Tryd.ntmps31
    go_wp2_with fail
    refine IX.out.mono ?_
    rintro e w1 ⟨rfl, rfl⟩
    go_wp2_with fail
    go_ret
    exact ⟨by rw [← HC.out]; simp [h], rfl⟩
  · go_enter Tryd.func31, Tryd.ntmps31
    go_wp2_with fail
    refine IX.out.mono ?_
    rintro e w1 ⟨rfl, rfl⟩
    go_wp2_with fail
    go_ret
    exact ⟨by rw [← HC.out]; simp, rfl⟩
end Go.Proofs.YtnjkopjbognpiaaDoor
