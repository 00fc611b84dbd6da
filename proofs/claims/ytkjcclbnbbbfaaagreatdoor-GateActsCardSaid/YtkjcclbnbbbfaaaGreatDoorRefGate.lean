/- Contracts of the document's Gate: Find, may, set, Last, Open, Admit, Set. -/
import Derived.Test.YtkjcclbnbbbfaaaGreatDoorGated
import Derived.Test.YtkjcclbnbbbfaaaGreatDoorRefName
import Derived.Test.YtkjcclbnbbbfaaaGreatDoorRow2
import Derived.Test.YtkjcclbnbbbfaaaGreatDoorAppIs
import Derived.Test.YtkjcclbnbbbfaaaGreatDoorRefByte
namespace Go.Proofs.YtkjcclbnbbbfaaaGreatDoor
open Go.RowKit
set_option linter.unusedVariables false

/-! ### the document's list in memory -/
def tk0 (p : List UInt8 × Nat) : Value := .string (bs p.1)
def tk1 (p : List UInt8 × Nat) : Value := .int .i64 (p.2 : Nat)
def tkc (l : GM) : List Value := rowc tk0 tk1 l
theorem tkc_len (l : GM) : (tkc l).length = l.length * 2 := rowc_len _ _ l
theorem tkc_get (l : GM) (k : Nat) (h : k < l.length) : (tkc l)[k * 2]? = some (.string (bs l[k].1)) ∧ (tkc l)[k * 2 + 1]? = some (.int .i64 (l[k].2 : Nat)) := rowc_get _ _ l k h
theorem tkc_append (l m : GM) : tkc (l ++ m) = tkc l ++ tkc m := rowc_append _ _ l m
theorem tkc_one (p : List UInt8 × Nat) : tkc [p] = [.string (bs p.1), .int .i64 (p.2 : Nat)] := rfl
/-- the gate: its list lies above it -/
structure RgAt (w : World) (rb : Nat) (l : GM) (v : Value) : Prop where
  cells : w.heap[rb]? = some (.cells #[v] 64 (0, 0))
  own : w.ownsRow (rb + 1) 113 2 v l.length (tkc l)
theorem RgAt.lt {w : World} {rb : Nat} {l : GM} {v : Value} (h : RgAt w rb l v) : rb < w.heap.size := lt_of_block h.cells
theorem RgAt.c0 {w : World} {rb : Nat} {l : GM} {v : Value} (h : RgAt w rb l v) : w.cell? ⟨rb, 0, none⟩ = some v := by simp [World.cell?, h.cells]
theorem RgAt.fz {w : World} {rb : Nat} {l : GM} {v : Value} (h : RgAt w rb l v) : w.frozen? ⟨rb, 0, none⟩ = false := by simp [World.frozen?, h.cells]
theorem RgAt.below {w w' : World} {rb : Nat} {l : GM} {v : Value} (h : RgAt w rb l v) (hb : Below w.heap.size w w') : RgAt w' rb l v := ⟨(hb.block rb h.lt).trans h.cells, owns_below h.own hb⟩
theorem RgAt.new {w : World} : RgAt (w.alloc (.cells #[.slice none 0 0] 64)) w.heap.size [] (.slice none 0 0) := ⟨heap_alloc_new _ _, World.ownsRow_nil _ _ _ _⟩
/-- what changes but a block that holds no such cells leaves it as it was -/
theorem RgAt.kept {w w' : World} {rb : Nat} {l : GM} {v : Value} {S : Nat → Prop} (h : RgAt w rb l v) (hc : Chg w w' S) (h1 : ¬ S rb) (h2 : ∀ x, v.ownBlock = some x → ¬ S x) : RgAt w' rb l v :=
  ⟨(hc.block rb h.lt h1).trans h.cells, own_other h.own hc h2⟩
theorem RgAt.map {w w' : World} {rb gb mb n : Nat} {l m : GM} {v : Value} (h : RgAt w rb l v) (g : GtAt w gb mb n m) (hc : Chg w w' (fun x => x = mb)) : RgAt w' rb l v := by
  obtain ⟨D, ⟨es, clock, hb, _⟩, _⟩ := g.map
  refine h.kept hc (fun e => ?_) (fun x hx e => ?_)
  · have := h.cells; rw [e, hb] at this; cases this
  · subst e
    rcases h.own.2 with ⟨rfl, _⟩ | ⟨g0, cap, cur, rfl, _, hgb, _⟩
    · simp [Value.ownBlock] at hx
    · have : g0 = x := by simpa [Value.ownBlock] using hx
      rw [this, hb] at hgb; cases hgb
theorem GtAt.ref {w w' : World} {rb gb mb n : Nat} {l m : GM} {v : Value} (g : GtAt w gb mb n m) (h : RgAt w rb l v) (hc : Chg w w' (fun x => x = rb)) : GtAt w' gb mb n m := by
  obtain ⟨D, ⟨es, clock, hb, _⟩, _⟩ := g.map
  refine g.kept hc (fun e => ?_) (fun e => ?_)
  · have h1 := h.cells; have h2 := g.cells; rw [← e, h2] at h1; cases h1
  · have := h.cells; rw [← e, hb] at this; cases this
theorem RgAt.slice {w : World} {rb : Nat} {l : GM} {v : Value} (h : RgAt w rb l v) : ∃ a c, v = .slice a l.length c := owns_slice h.own
theorem infoTk : (Tryz.prog.info? 113).map (fun i => (i.zero, i.size, i.bytes)) = some (some (.agg #[.string ⟨#[]⟩, .int .i64 0]), 2, 24) := by kernel_rfl
theorem run_geqS {P : Program} (t : TypeId) (a b : List UInt8) (w : World) : (binOp .geq t (.string (bs a)) (.string (bs b))).run P w = .ok (.bool (!ltL a b)) w := by
  simp only [binOp, Op.stringOp, bs_tl']
  rfl
theorem slice_oneTk {w : World} {b : Nat} {x y : Value} (h : w.heap[b]? = some (.cells #[x, y] 113 (0, 0))) : SliceIs w (.slice (some ⟨b, 0, none⟩) 1 1) 2 [x, y] :=
  .inr ⟨⟨b, 0, none⟩, 1, 1, rfl, Nat.le_refl _, by unfold maxLen; omega, rfl, fun i u hi => by
    match i, hi with
    | 0, hi => simp at hi; subst hi; simp [World.cell?, h, Addr.add]
    | 1, hi => simp at hi; subst hi; simp [World.cell?, h, Addr.add]⟩

/-! ### Find -/
/-- what Find answers -/
def FindIs (l : GM) (k : List UInt8) (r : Int) : Prop := (r = -1 ∧ k ∉ l.map Prod.fst) ∨ ∃ j, ∃ h : j < l.length, r = (j : Nat) ∧ (l[j]'h).1 = k ∧ glk l k = (l[j]'h).2
theorem glk_drop {l : GM} {k : List UInt8} {j : Nat} (h : j < l.length) (hne : ∀ i (hi : i < j), (l[i]'(by omega)).1 ≠ k) (e : (l[j]'h).1 = k) : glk l k = (l[j]'h).2 := by
  induction l generalizing j with
  | nil => simp at h
  | cons p l ih =>
    unfold glk
    cases j with
    | zero => rw [if_pos (by simpa using e)]; rfl
    | succ j =>
      rw [if_neg (by simpa using hne 0 (by omega))]
      exact ih (j := j) (by simpa using h) (fun i hi => by simpa using hne (i + 1) (by omega)) (by simpa using e)
section
variable {w : World} {rb : Nat} {l : GM} {v : Value}
set_option maxRecDepth 100000 in
set_option maxHeartbeats 6400000 in
theorem rgfind_any (k : List UInt8) (h : RgAt w rb l v) (hl : l.length ≤ 1000000) :
    Calls Tryz.prog 57 #[.pointer (some ⟨rb, 0, none⟩), .string (bs k)] w fun e w' => ∃ r : Int, e = .returned (.int .i64 r) ∧ FindIs l k r ∧ w = w' := by
  have c0 := h.c0
  obtain ⟨va, vc, rfl⟩ := h.slice
  have hg := Lib.hid (SliceIs.ownedK h.own)
  clear h
  go_enter Tryz.func57, Tryz.ntmps57
  go_wp2_with fail
  go_loopw [5] (fun i wr => ∃ j : Nat, i = .int .i64 j ∧ j ≤ l.length ∧ (∀ (i : Nat) (hi : i < j) (hj : i < l.length), (l[i]'hj).1 ≠ k) ∧ wr = w) (fun i _ => l.length - (intOf i).toNat)
  case atStart => exact ⟨0, rfl, by omega, fun i hi => by omega, rfl⟩
  case round =>
    obtain ⟨j, rfl, hj, hne, rfl⟩ := hrel
    by_cases hlt : j < l.length
    · have hltI : (j : Int) < l.length := by omega
      obtain ⟨s0', n0', c0', e1, _, _, _, g1⟩ := hg.out.get
      cases e1
      obtain ⟨g2, g3⟩ := tkc_get l j hlt
      obtain ⟨ad, rfl, d0⟩ := g1 _ _ g2
      clear g1 g2 g3
      have x1 : (0 : Int) ≤ j := by omega
      have x2 : (j : Int).toNat = j := by omega
      have HNE := Lib.hid hne
      by_cases hk : (l[j]'hlt).1 = k
      · have HK := Lib.hid hk
        have hb : ((bs (l[j]'hlt).1).toList == (bs k).toList) = true := by rw [bs_tl', bs_tl']; simpa using hk
        clear hk hne
        go_wp2_with fail
        go_ret
        exact ⟨_, rfl, .inr ⟨j, hlt, rfl, HK.out, glk_drop hlt (fun i hi => HNE.out i hi (by omega)) HK.out⟩, rfl⟩
      · have HK := Lib.hid hk
        have hb : ((bs (l[j]'hlt).1).toList == (bs k).toList) = false := by rw [bs_tl', bs_tl']; simpa using hk
        clear hk hne
        go_wp2_with fail
        go_roundw
        case rel =>
          refine ⟨j + 1, by go_num, by omega, fun i hi hjl => ?_, trivial⟩
          by_cases e : i = j
          · subst e; exact HK.out
          · exact HNE.out i (by omega) hjl
        case measure => simp [intOf]; omega
    · have hltI : ¬ (j : Int) < l.length := by omega
      have HNE := Lib.hid hne
      clear hne
      go_wp2_with fail
      go_ret
      refine ⟨_, rfl, .inl ⟨rfl, fun hm => ?_⟩, rfl⟩
      obtain ⟨p, hp, e⟩ := List.mem_map.1 hm
      obtain ⟨i, hi, rfl⟩ := List.mem_iff_getElem.1 hp
      exact HNE.out i (by omega) hi e
theorem find_glk {r : Int} {k : List UInt8} (h : FindIs l k r) (hw : GWF l) : (r < 0 ↔ glk l k = 0) := by
  rcases h with ⟨rfl, hn⟩ | ⟨j, hj, rfl, e, g⟩
  · exact ⟨fun _ => glk_no hn, fun _ => by omega⟩
  · have := (hw.ep _ (List.getElem_mem hj)).1
    constructor
    · intro h; omega
    · intro h; omega
set_option maxRecDepth 100000 in
set_option maxHeartbeats 6400000 in
theorem rglast_any (k : List UInt8) (h : RgAt w rb l v) (hl : l.length ≤ 1000000) :
    Calls Tryz.prog 33 #[.pointer (some ⟨rb, 0, none⟩), .string (bs k)] w fun e w' => e = .returned (.int .i64 (glk l k : Nat)) ∧ w = w' := by
  have FD := Lib.hid (rgfind_any k h hl)
  have c0 := h.c0
  obtain ⟨va, vc, rfl⟩ := h.slice
  have hg := Lib.hid (SliceIs.ownedK h.own)
  clear h
  go_enter Tryz.func33, Tryz.ntmps33
  go_wp2_with fail
  refine FD.out.mono ?_
  rintro e w1 ⟨r, rfl, hr, rfl⟩
  clear FD
  rcases hr with ⟨rfl, hn⟩ | ⟨j, hj, rfl, e, g⟩
  · have GZ := Lib.hid (glk_no hn)
    clear hn
    go_wp2_with fail
    go_ret
    exact ⟨by rw [GZ.out]; rfl, rfl⟩
  · have GZ := Lib.hid g
    obtain ⟨s0', n0', c0', e1, _, _, _, g1⟩ := hg.out.get
    cases e1
    obtain ⟨g2, g3⟩ := tkc_get l j hj
    obtain ⟨ad, rfl, d1⟩ := g1 _ _ g3
    have d1 := cell_at d1
    have x1 : (0 : Int) ≤ j := by omega
    have x2 : (j : Int).toNat = j := by omega
    have x3 : (j : Int) < l.length := by omega
    have x4 : ¬ (j : Int) < 0 := by omega
    clear g1 g2 g3 e g
    go_wp2_with fail
    go_ret
    exact ⟨by rw [GZ.out]; rfl, rfl⟩
set_option maxRecDepth 100000 in
set_option maxHeartbeats 6400000 in
theorem rgmay_any (k : List UInt8) (h : RgAt w rb l v) (hw : GWF l) (hk : k.length ≤ 1000000000) :
    Calls Tryz.prog 55 #[.pointer (some ⟨rb, 0, none⟩), .string (bs k)] w fun e w' => e = .returned (.int .i64 (mayC l k : Nat)) ∧ w = w' := by
  have hfew := hw.few
  have FD := Lib.hid (rgfind_any k h (by omega))
  have NM := Lib.hid (isName_b (bs k) w (by rw [bs_size]; exact hk))
  rw [bs_list] at NM
  have c0 := h.c0
  have HW := Lib.hid hw
  obtain ⟨va, vc, rfl⟩ := h.slice
  clear h hw
  by_cases hnm : nameB k = true
  · rw [hnm] at NM
    go_enter Tryz.func55, Tryz.ntmps55
    go_wp2_with fail
    refine NM.out.mono ?_
    rintro e w1 ⟨rfl, rfl⟩
    go_wp2_with fail
    refine FD.out.mono ?_
    rintro e w1 ⟨r, rfl, hr, rfl⟩
    have hz := find_glk hr HW.out
    clear NM FD hr
    by_cases hf : glk l k = 0
    · have hrI : r < 0 := hz.2 hf
      by_cases h20 : 20 ≤ l.length
      · have hI : (20 : Int) ≤ l.length := by omega
        have MC := Lib.hid (mayC_full hnm ⟨hf, h20⟩)
        clear hf hz hnm h20
        go_wp2_with fail
        go_ret
        exact ⟨by rw [MC.out]; rfl, rfl⟩
      · have hI : ¬ (20 : Int) ≤ l.length := by omega
        have MC := Lib.hid (mayC_ok hnm (fun h => h20 h.2))
        clear hf hz hnm h20
        go_wp2_with fail
        go_ret
        exact ⟨by rw [MC.out]; rfl, rfl⟩
    · have hrI : ¬ r < 0 := fun h => hf (hz.1 h)
      have MC := Lib.hid (mayC_ok hnm (fun h => hf h.1))
      clear hf hz hnm
      go_wp2_with fail
      go_ret
      exact ⟨by rw [MC.out]; rfl, rfl⟩
  · have hnm' : nameB k = false := by simpa using hnm
    rw [hnm'] at NM
    rw [mayC_name hnm']
    clear FD hnm hnm'
    go_enter Tryz.func55, Tryz.ntmps55
    go_wp2_with fail
    refine NM.out.mono ?_
    rintro e w1 ⟨rfl, rfl⟩
    go_wp2_with fail
    go_ret
    exact ⟨rfl, rfl⟩
set_option maxRecDepth 100000 in
set_option maxHeartbeats 6400000 in
theorem rgadmit_any (k : List UInt8) (x : Int) (h : RgAt w rb l v) (hl : l.length ≤ 1000000) :
    Calls Tryz.prog 30 #[.pointer (some ⟨rb, 0, none⟩), .string (bs k), .int .i64 x] w fun e w' => e = .returned (.int .i64 (adC l k x : Nat)) ∧ w = w' := by
  have LS := Lib.hid (rglast_any k h hl)
  clear h
  by_cases h0 : glk l k = 0
  · rw [ad_none h0]
    have hz : (((glk l k : Nat) : Int) == 0) = true := by rw [beq_iff_eq]; omega
    clear h0
    generalize glk l k = z at *
    go_enter Tryz.func30, Tryz.ntmps30
    go_wp2_with fail
    refine LS.out.mono ?_
    rintro e w1 ⟨rfl, rfl⟩
    go_wp2_with fail
    go_ret
    exact ⟨rfl, rfl⟩
  · have hz : (((glk l k : Nat) : Int) == 0) = false := by rw [beq_eq_false_iff_ne]; omega
    by_cases hx : (glk l k : Int) = x
    · rw [ad_ok h0 hx]
      have hq : (((glk l k : Nat) : Int) != x) = false := by rw [bne_eq_false_iff_eq]; exact hx
      clear h0 hx
      generalize glk l k = z at *
      go_enter Tryz.func30, Tryz.ntmps30
      go_wp2_with fail
      refine LS.out.mono ?_
      rintro e w1 ⟨rfl, rfl⟩
      go_wp2_with fail
      go_ret
      exact ⟨rfl, rfl⟩
    · rw [ad_stale h0 hx]
      have hq : (((glk l k : Nat) : Int) != x) = true := by rw [bne_iff_ne]; exact hx
      clear h0 hx
      generalize glk l k = z at *
      go_enter Tryz.func30, Tryz.ntmps30
      go_wp2_with fail
      refine LS.out.mono ?_
      rintro e w1 ⟨rfl, rfl⟩
      go_wp2_with fail
      go_ret
      exact ⟨rfl, rfl⟩
end

/-! ### set -/
/-- what is still to come of a list that is set -/
def setR (b : Bool) (l : GM) (k : List UInt8) (z : Nat) : GM := if b then l else gset l k z
theorem setR_t (l : GM) (k : List UInt8) (z : Nat) : setR true l k z = l := rfl
theorem setR_f (l : GM) (k : List UInt8) (z : Nat) : setR false l k z = gset l k z := rfl
theorem setR_old {l : GM} {k : List UInt8} {z j : Nat} (h : j < l.length) : setR true (l.drop j) k z = [l[j]] ++ setR true (l.drop (j + 1)) k z := by
  rw [setR_t, setR_t, List.drop_eq_getElem_cons h]; rfl
theorem setR_eq {l : GM} {k : List UInt8} {z j : Nat} (h : j < l.length) (e : l[j].1 = k) : setR false (l.drop j) k z = [(k, z)] ++ setR true (l.drop (j + 1)) k z := by
  rw [setR_f, setR_t, List.drop_eq_getElem_cons h, gset, e, ltL_irrefl]; simp
theorem setR_gt {l : GM} {k : List UInt8} {z j : Nat} (h : j < l.length) (e : ltL k l[j].1 = true) : setR false (l.drop j) k z = [(k, z)] ++ ([l[j]] ++ setR true (l.drop (j + 1)) k z) := by
  rw [setR_f, setR_t, List.drop_eq_getElem_cons h, gset, ltL_asymm e, if_neg (by simp), if_neg (fun h => ltL_ne e h.symm)]; rfl
theorem setR_lt {l : GM} {k : List UInt8} {z j : Nat} (h : j < l.length) (e : ltL l[j].1 k = true) : setR false (l.drop j) k z = [l[j]] ++ setR false (l.drop (j + 1)) k z := by
  rw [setR_f, setR_f, List.drop_eq_getElem_cons h, gset, if_pos e]; rfl
theorem setR_end_t {l : GM} (k : List UInt8) (z : Nat) : setR true (l.drop l.length) k z = [] := by rw [setR_t, List.drop_length]
theorem setR_end_f {l : GM} (k : List UInt8) (z : Nat) : setR false (l.drop l.length) k z = [(k, z)] := by rw [setR_f, List.drop_length]; rfl
theorem gset_len (l : GM) (k : List UInt8) (z : Nat) : (gset l k z).length ≤ l.length + 1 := by
  induction l with
  | nil => simp [gset]
  | cons p l ih =>
    unfold gset
    split
    · simp only [List.length_cons]; omega
    · split <;> simp only [List.length_cons] <;> omega
theorem chgo {w0 w w' : World} {o : Obj} {base : Nat} {v : Value} {n : Nat} {xs : List Value} (h : w.ownsRow base 113 2 v n xs) (hb : w0.heap.size ≤ base) (c : Below w0.heap.size w0 w) (hs : w0.heap.size ≤ w.heap.size) (hg : (w.alloc o).grownBy w' v.ownBlock) : Below w0.heap.size w0 w' :=
  (c.alloc hs o).grown hg (by simp; omega) (fun j hj => by have := (h.lt j hj).1; omega)
theorem tk_cell {w w' : World} {l : GM} {ad : Addr} {m c i : Nat} {u : Value} (h : SliceIs w (.slice (some ad) m c) 2 (tkc l)) (b : Below w.heap.size w w') (hu : (tkc l)[i]? = some u) : w'.cell? (ad.add i) = some u := by
  obtain ⟨s', n', c', e1, _, _, _, g1⟩ := (h.below b).get
  cases e1
  obtain ⟨a, e, d⟩ := g1 _ _ hu
  cases e
  exact d
theorem set_done {w w' : World} {rb : Nat} {l D L : GM} {v v' : Value} (h : RgAt w rb l v) (b : Below w.heap.size w w') (ho : w'.ownsRow w.heap.size 113 2 v' D.length (tkc D)) (hlt : rb < w.heap.size) (e : D = L) :
    (∃ v2, RgAt (w'.setCell ⟨rb, 0, none⟩ v') rb L v2) ∧ Chg w (w'.setCell ⟨rb, 0, none⟩ v') (fun x => x = rb) := by
  subst e
  have hc : w'.heap[rb]? = some (.cells #[v] 64 (0, 0)) := (b.block rb hlt).trans h.cells
  have ho2 : (w'.setCell ⟨rb, 0, none⟩ v').ownsRow w.heap.size 113 2 v' D.length (tkc D) := ownsRow_setCell_other ho (a := ⟨rb, 0, none⟩) (fun e => by have := (ho.lt rb e).1; omega) v'
  exact ⟨⟨v', set_at hc, owns_mono' ho2 (by omega)⟩, (Chg.of_below b (fun x => x = rb)).set ⟨rb, 0, none⟩ (.inl rfl) v'⟩
attribute [local irreducible] gset glk
section
variable {w : World} {rb : Nat} {l : GM} {v : Value}
set_option maxRecDepth 100000 in
set_option maxHeartbeats 12800000 in
theorem rgset_any (k : List UInt8) (z : Nat) (h : RgAt w rb l v) (hl : l.length ≤ 1000000) :
    Calls Tryz.prog 56 #[.pointer (some ⟨rb, 0, none⟩), .string (bs k), .int .i64 z] w fun e w' => e = .returned (.tuple #[]) ∧ (∃ v', RgAt w' rb (gset l k z) v') ∧ Chg w w' (fun x => x = rb) := by
  obtain ⟨i0, hi, hs0, hs1, hs2⟩ := info_parts infoTk
  have HR := Lib.hid h
  have HLEN := Lib.hid (gset_len l k z)
  have HLT := Lib.hid h.lt
  obtain ⟨va0, vc0, rfl⟩ := h.slice
  have hg := Lib.hid (SliceIs.ownedK h.own)
  clear h
  go_enter Tryz.func56, Tryz.ntmps56
  go_wp2_with fail
  go_loopw [6, 7, 8] (fun o dn i wr => ∃ (j : Nat) (D : GM) (b : Bool), i = .int .i64 j ∧ j ≤ l.length ∧ dn = .bool b ∧ D ++ setR b (l.drop j) k z = gset l k z ∧ wr.ownsRow w.heap.size 113 2 o D.length (tkc D) ∧ Below w.heap.size w wr) (fun _ _ i _ => l.length - (intOf i).toNat)
  case atStart => exact ⟨0, [], false, rfl, by omega, rfl, rfl, World.ownsRow_nil _ _ _ _, Below.refl _ _⟩
  case round =>
    obtain ⟨j, D, b, rfl, hj, rfl, hinv, hown, bel⟩ := hrel
    have BW := Lib.hid bel
    have HO := Lib.hid hown
    have HI := Lib.hid hinv
    have hDl : D.length ≤ l.length + 1 := by have := congrArg List.length hinv; rw [List.length_append] at this; have := HLEN.out; omega
    have HSG := Lib.hid bel.size
    have c0 := (HR.out.below bel).c0
    clear hown bel hinv
    obtain ⟨va, vc, rfl⟩ := owns_slice HO.out
    by_cases hlt : j < l.length
    · have hltI : (j : Int) < l.length := by omega
      obtain ⟨s0', n0', c0', e1, _, _, _, g1⟩ := (hg.out.below BW.out).get
      cases e1
      obtain ⟨g2, g3⟩ := tkc_get l j hlt
      obtain ⟨ad, rfl, d0⟩ := g1 _ _ g2
      obtain ⟨a', e', d1⟩ := g1 _ _ g3
      cases e'
      clear g1 g2 g3
      have x1 : (0 : Int) ≤ j := by omega
      have x2 : (j : Int).toNat = j := by omega
      have KK := Lib.hid (show j + 1 ≤ l.length from hlt)
      have P0 := Lib.hid (setR_old (k := k) (z := z) hlt)
      have P1 := Lib.hid (fun e => setR_eq (k := k) (z := z) hlt e)
      have P2 := Lib.hid (fun e => setR_gt (k := k) (z := z) hlt e)
      have P3 := Lib.hid (fun e => setR_lt (k := k) (z := z) hlt e)
      have GG := Lib.hid (tkc_get l j hlt)
      generalize l[j]'hlt = x at d0 d1 GG P0 P1 P2 P3
      have d1 := cell_at d1
      have HN1 : Hid (D.length + 1 ≤ maxLen) := by show _ ≤ _; unfold maxLen; omega
      have HN2 : Hid ((D.length + 1) * 24 ≤ 140737488355328) := by show _ ≤ _; omega
      cases b with
      | true =>
        have Y := Lib.hid (show (D ++ [x]) ++ setR true (l.drop (j + 1)) k z = gset l k z by rw [List.append_assoc, ← P0.out]; exact HI.out)
        clear P0 P1 P2 P3
        go_wp2_with (first | (at_builtin; refine wpList_append_is rfl (.tmp 48) (.tmp 56) 62 rfl w.heap.size 113 i0 _ 2 24 Tryz.underlying62 hi hs0 hs1 hs2 rfl (by decide) _ D.length _ rfl (HO.out.alloc _) _ 1 [.string (bs x.1), .int .i64 (x.2 : Nat)] rfl (slice_oneTk (heap_alloc_new _ _)) rfl (fun u hu => by simp at hu; rcases hu with rfl | rfl <;> rfl) HN1.out HN2.out (by have := HSG.out; simp; omega) ?_; intro v' w5 hown5 hgrow _; have HO5 := Lib.hid hown5; have HG5 := Lib.hid hgrow; clear hown5 hgrow))
        go_roundw
        case rel => exact ⟨j + 1, D ++ [x], true, by go_num, KK.out, rfl, Y.out, by rw [tkc_append, List.length_append]; exact HO5.out, chgo HO.out (Nat.le_refl _) BW.out HSG.out HG5.out⟩
        case measure => simp [intOf]; omega
      | false =>
        rcases ltL_tri x.1 k with hx | hx | hx
        · have hge : ∀ w, (binOp .geq 9 (.string (bs x.1)) (.string (bs k))).run Tryz.prog w = .ok (.bool false) w := fun w => by rw [run_geqS, hx]; rfl
          have Y := Lib.hid (show (D ++ [x]) ++ setR false (l.drop (j + 1)) k z = gset l k z by rw [List.append_assoc, ← P3.out hx]; exact HI.out)
          clear P0 P1 P2 P3 hx
          go_wp2_with (first | (at_builtin; refine wpList_append_is rfl (.tmp 48) (.tmp 56) 62 rfl w.heap.size 113 i0 _ 2 24 Tryz.underlying62 hi hs0 hs1 hs2 rfl (by decide) _ D.length _ rfl (HO.out.alloc _) _ 1 [.string (bs x.1), .int .i64 (x.2 : Nat)] rfl (slice_oneTk (heap_alloc_new _ _)) rfl (fun u hu => by simp at hu; rcases hu with rfl | rfl <;> rfl) HN1.out HN2.out (by have := HSG.out; simp; omega) ?_; intro v' w5 hown5 hgrow _; have HO5 := Lib.hid hown5; have HG5 := Lib.hid hgrow; clear hown5 hgrow))
          go_roundw
          case rel => exact ⟨j + 1, D ++ [x], false, by go_num, KK.out, rfl, Y.out, by rw [tkc_append, List.length_append]; exact HO5.out, chgo HO.out (Nat.le_refl _) BW.out HSG.out HG5.out⟩
          case measure => simp [intOf]; omega
        · have hge : ∀ w, (binOp .geq 9 (.string (bs x.1)) (.string (bs k))).run Tryz.prog w = .ok (.bool true) w := fun w => by rw [run_geqS, hx, ltL_irrefl]; rfl
          have Y := Lib.hid (show (D ++ [(k, z)]) ++ setR true (l.drop (j + 1)) k z = gset l k z by rw [List.append_assoc, ← P1.out hx]; exact HI.out)
          have hb : ((bs x.1).toList == (bs k).toList) = true := by rw [bs_tl', bs_tl']; simpa using hx
          have D0 := Lib.hid (fun (w' : World) (bb : Below wr.heap.size wr w') => (bb.cell (World.block_lt_of_cell? wr _ d0)).trans d0)
          have C0 := Lib.hid (fun (w' : World) (bb : Below wr.heap.size wr w') => (bb.cell (World.block_lt_of_cell? wr _ c0)).trans c0)
          clear P0 P1 P2 P3 hx
          go_wp2_with (first | (at_builtin; refine wpList_append_is rfl (.tmp 32) (.tmp 36) 62 rfl w.heap.size 113 i0 _ 2 24 Tryz.underlying62 hi hs0 hs1 hs2 rfl (by decide) _ D.length _ rfl (HO.out.alloc _) _ 1 [.string (bs k), .int .i64 (z : Nat)] rfl (slice_oneTk (heap_alloc_new _ _)) rfl (fun u hu => by simp at hu; rcases hu with rfl | rfl <;> rfl) HN1.out HN2.out (by have := HSG.out; simp; omega) ?_; intro v5' w5 hown5 hgrow _; have HO5 := Lib.hid hown5; have HG5 := Lib.hid hgrow; have bb5 := chgo HO.out (Nat.le_refl _) BW.out HSG.out hgrow; have c05 := (HR.out.below bb5).c0; have d05 := tk_cell hg.out bb5 GG.out.1; have d15 := cell_at (tk_cell hg.out bb5 GG.out.2); have BB5 := Lib.hid bb5; have HSG5 := Lib.hid bb5.size; clear bb5 hgrow; obtain ⟨va5, vc5, rfl⟩ := owns_slice hown5; clear hown5))
          go_roundw
          case rel => exact ⟨j + 1, D ++ [(k, z)], true, by go_num, KK.out, rfl, Y.out, by rw [tkc_append, List.length_append]; exact HO5.out, BB5.out⟩
          case measure => simp [intOf]; omega
        · have hge : ∀ w, (binOp .geq 9 (.string (bs x.1)) (.string (bs k))).run Tryz.prog w = .ok (.bool true) w := fun w => by rw [run_geqS, ltL_asymm hx]; rfl
          have Y := Lib.hid (show ((D ++ [(k, z)]) ++ [x]) ++ setR true (l.drop (j + 1)) k z = gset l k z by rw [List.append_assoc, List.append_assoc, ← P2.out hx]; exact HI.out)
          have hb : ((bs x.1).toList == (bs k).toList) = false := by rw [bs_tl', bs_tl', beq_eq_false_iff_ne]; exact fun e => ltL_ne hx e.symm
          have HM1 : Hid (D.length + 1 + 1 ≤ maxLen) := by show _ ≤ _; unfold maxLen; omega
          have HM2 : Hid ((D.length + 1 + 1) * 24 ≤ 140737488355328) := by show _ ≤ _; omega
          clear P0 P1 P2 P3 hx
          go_wp2_with (first | (at_builtin; refine wpList_append_is rfl (.tmp 32) (.tmp 36) 62 rfl w.heap.size 113 i0 _ 2 24 Tryz.underlying62 hi hs0 hs1 hs2 rfl (by decide) _ D.length _ rfl (HO.out.alloc _) _ 1 [.string (bs k), .int .i64 (z : Nat)] rfl (slice_oneTk (heap_alloc_new _ _)) rfl (fun u hu => by simp at hu; rcases hu with rfl | rfl <;> rfl) HN1.out HN2.out (by have := HSG.out; simp; omega) ?_; intro v5' w5 hown5 hgrow _; have HO5 := Lib.hid hown5; have HG5 := Lib.hid hgrow; have bb5 := chgo HO.out (Nat.le_refl _) BW.out HSG.out hgrow; have c05 := (HR.out.below bb5).c0; have d05 := tk_cell hg.out bb5 GG.out.1; have d15 := cell_at (tk_cell hg.out bb5 GG.out.2); have BB5 := Lib.hid bb5; have HSG5 := Lib.hid bb5.size; clear bb5 hgrow; obtain ⟨va5, vc5, rfl⟩ := owns_slice hown5; clear hown5) | (at_builtin; refine wpList_append_is rfl (.tmp 48) (.tmp 56) 62 rfl w.heap.size 113 i0 _ 2 24 Tryz.underlying62 hi hs0 hs1 hs2 rfl (by decide) _ (D.length + 1) _ rfl (HO5.out.alloc _) _ 1 [.string (bs x.1), .int .i64 (x.2 : Nat)] rfl (slice_oneTk (heap_alloc_new _ _)) rfl (fun u hu => by simp at hu; rcases hu with rfl | rfl <;> rfl) HM1.out HM2.out (by have := HSG5.out; simp; omega) ?_; intro v6' w6 hown6 hgrow _; have HO6 := Lib.hid hown6; have HG6 := Lib.hid hgrow; clear hown6 hgrow))
          go_roundw
          case rel => exact ⟨j + 1, (D ++ [(k, z)]) ++ [x], true, by go_num, KK.out, rfl, Y.out, by rw [tkc_append, tkc_append, List.length_append, List.length_append]; exact HO6.out, chgo HO5.out (Nat.le_refl _) BB5.out HSG5.out HG6.out⟩
          case measure => simp [intOf]; omega
    · have hltI : ¬ (j : Int) < l.length := by omega
      obtain rfl : j = l.length := by omega
      have f0 := (HR.out.below BW.out).fz
      cases b with
      | true =>
        have hD : D = gset l k z := by have := HI.out; rw [setR_end_t, List.append_nil] at this; exact this
        have HD := Lib.hid hD
        clear hD
        go_wp2_with fail
        go_returns
        exact ⟨rfl, set_done HR.out BW.out HO.out HLT.out HD.out⟩
      | false =>
        have hD : D ++ [(k, z)] = gset l k z := by have := HI.out; rw [setR_end_f] at this; exact this
        have HN1 : Hid (D.length + 1 ≤ maxLen) := by show _ ≤ _; unfold maxLen; omega
        have HN2 : Hid ((D.length + 1) * 24 ≤ 140737488355328) := by show _ ≤ _; omega
        have HD := Lib.hid hD
        clear hD
        go_wp2_with (first | (at_builtin; refine wpList_append_is rfl (.tmp 60) (.tmp 64) 62 rfl w.heap.size 113 i0 _ 2 24 Tryz.underlying62 hi hs0 hs1 hs2 rfl (by decide) _ D.length _ rfl (HO.out.alloc _) _ 1 [.string (bs k), .int .i64 (z : Nat)] rfl (slice_oneTk (heap_alloc_new _ _)) rfl (fun u hu => by simp at hu; rcases hu with rfl | rfl <;> rfl) HN1.out HN2.out (by have := HSG.out; simp; omega) ?_; intro v5' w5 hown5 hgrow _; have HO5 := Lib.hid hown5; have HG5 := Lib.hid hgrow; have bb5 := chgo HO.out (Nat.le_refl _) BW.out HSG.out hgrow; have rg5 := HR.out.below bb5; have c05 := rg5.c0; have f05 := rg5.fz; have BB5 := Lib.hid bb5; clear bb5 hgrow; obtain ⟨va5, vc5, rfl⟩ := owns_slice hown5; clear hown5))
        go_returns
        exact ⟨rfl, set_done HR.out BB5.out (D := D ++ [(k, z)]) (by rw [tkc_append, List.length_append]; exact HO5.out) HLT.out HD.out⟩
end
end Go.Proofs.YtkjcclbnbbbfaaaGreatDoor
/- Contracts of the document's Gate: Open, Set, Text. -/
namespace Go.Proofs.YtkjcclbnbbbfaaaGreatDoor
open Go.RowKit
set_option linter.unusedVariables false

/-- the list behind an opening, behind a setting -/
def opG (l : GM) (k : List UInt8) : GM := if opC' l k = 0 then gset l k (glk l k + 1) else l
def stG (l : GM) (k : List UInt8) (x : Int) : GM := if stC l k x = 0 then gset l k (stN l k x) else l
theorem opG_yes {l : GM} {k : List UInt8} (h : opC' l k = 0) : opG l k = gset l k (glk l k + 1) := if_pos h
theorem opG_no {l : GM} {k : List UInt8} (h : opC' l k ≠ 0) : opG l k = l := if_neg h
theorem stG_yes {l : GM} {k : List UInt8} {x : Int} (h : stC l k x = 0) : stG l k x = gset l k (stN l k x) := if_pos h
theorem stG_no {l : GM} {k : List UInt8} {x : Int} (h : stC l k x ≠ 0) : stG l k x = l := if_neg h
theorem GWF.glk_le {l : GM} (h : GWF l) (k : List UInt8) : glk l k ≤ 2147483648 := by
  by_cases hk : k ∈ l.map Prod.fst
  · obtain ⟨p, hp, rfl⟩ := List.mem_map.1 hk
    rw [glk_mem h.srt.nodup hp]
    exact (h.ep p hp).2
  · rw [glk_no hk]; omega
theorem GWF.opG {l : GM} (h : GWF l) (k : List UInt8) : GWF (opG l k) := by
  by_cases hc : opC' l k = 0
  · rw [opG_yes hc]; exact (open_wf h (List.Perm.refl _) hc).2.2.2.1
  · rw [opG_no hc]; exact h
theorem GWF.stG {l : GM} (h : GWF l) (k : List UInt8) (x : Int) : GWF (stG l k x) := by
  by_cases hc : stC l k x = 0
  · rw [stG_yes hc]
    have hm : mayC l k = 0 := by
      by_cases h0 : mayC l k = 0
      · exact h0
      · rw [(st_may h0).1] at hc; exact absurd hc h0
    have hb : ¬ (x < 1 ∨ 2147483648 < x) := fun h1 => by rw [(st_bd hm h1).1] at hc; cases hc
    have hg := h.glk_le k
    refine h.set (List.Perm.refl _) hm ?_ ?_
    · unfold stN; split <;> omega
    · unfold stN; split <;> omega
  · rw [stG_no hc]; exact h
attribute [local irreducible] opC' opN opG stC stN stG mayC glk gset adC
section
variable {w : World} {rb : Nat} {l : GM} {v : Value}
set_option maxRecDepth 100000 in
set_option maxHeartbeats 6400000 in
theorem rgopen_any (k : List UInt8) (h : RgAt w rb l v) (hw : GWF l) (hk : k.length ≤ 1000000000) :
    Calls Tryz.prog 29 #[.pointer (some ⟨rb, 0, none⟩), .string (bs k)] w fun e w' => e = .returned (.tuple #[.int .i64 (opN l k : Nat), .int .i64 (opC' l k : Nat)]) ∧ (∃ v', RgAt w' rb (opG l k) v') ∧ Chg w w' (fun x => x = rb) := by
  have hfew := hw.few
  have MY := Lib.hid (rgmay_any k h hw hk)
  have LS := Lib.hid (rglast_any k h (by omega))
  have HR := Lib.hid h
  have hgl := hw.glk_le k
  by_cases hm : mayC l k = 0
  · rw [hm] at MY
    by_cases ht : 2147483648 ≤ glk l k
    · obtain ⟨e1, e2, e3⟩ := op_top hm ht
      rw [e1, e2, opG_no (by rw [e1]; decide)]
      have htI : (2147483648 : Int) ≤ ((glk l k : Nat) : Int) := by omega
      clear e1 e2 e3 hm ht h hw hgl
      generalize glk l k = z at *
      go_enter Tryz.func29, Tryz.ntmps29
      go_wp2_with fail
      refine MY.out.mono ?_
      rintro e w1 ⟨rfl, rfl⟩
      go_wp2_with fail
      refine LS.out.mono ?_
      rintro e w1 ⟨rfl, rfl⟩
      go_wp2_with fail
      go_ret2
      exact ⟨rfl, ⟨v, HR.out⟩, Chg.refl _ _⟩
    · obtain ⟨e1, e2, e3⟩ := op_ok hm ht
      have ST := Lib.hid (rgset_any k (glk l k + 1) h (by omega))
      rw [e1, e2, opG_yes e1]
      have htI : ¬ (2147483648 : Int) ≤ ((glk l k : Nat) : Int) := by omega
      clear e1 e2 e3 hm ht h hw
      rw [Int.natCast_add] at ST ⊢
      generalize gset l k (glk l k + 1) = L at *
      have hz0 : (0 : Int) ≤ ((glk l k : Nat) : Int) := by omega
      have hz9 : ((glk l k : Nat) : Int) ≤ 9223372036854775806 := by omega
      clear hgl hfew hk
      generalize ((glk l k : Nat) : Int) = z at *
      go_enter Tryz.func29, Tryz.ntmps29
      go_wp2_with fail
      refine MY.out.mono ?_
      rintro e w1 ⟨rfl, rfl⟩
      go_wp2_with fail
      refine LS.out.mono ?_
      rintro e w1 ⟨rfl, rfl⟩
      go_wp2_with fail
      refine ST.out.mono ?_
      rintro e w2 ⟨rfl, rg, ch⟩
      have RG := Lib.hid rg
      have CH := Lib.hid ch
      clear rg ch
      go_wp2_with fail
      go_ret2
      exact ⟨rfl, RG.out, CH.out⟩
  · obtain ⟨e1, e2, e3⟩ := op_may (m := l) (k := k) hm
    rw [e1, e2, opG_no (by rw [e1]; exact hm)]
    have hI : (0 : Int) < ((mayC l k : Nat) : Int) := by omega
    clear e1 e2 e3 hm h hw
    generalize mayC l k = c at *
    go_enter Tryz.func29, Tryz.ntmps29
    go_wp2_with fail
    refine MY.out.mono ?_
    rintro e w1 ⟨rfl, rfl⟩
    go_wp2_with fail
    go_ret2
    exact ⟨rfl, ⟨v, HR.out⟩, Chg.refl _ _⟩
set_option maxRecDepth 100000 in
set_option maxHeartbeats 6400000 in
theorem rgsets_any (k : List UInt8) (x : Int) (h : RgAt w rb l v) (hw : GWF l) (hk : k.length ≤ 1000000000) :
    Calls Tryz.prog 32 #[.pointer (some ⟨rb, 0, none⟩), .string (bs k), .int .i64 x] w fun e w' => e = .returned (.int .i64 (stC l k x : Nat)) ∧ (∃ v', RgAt w' rb (stG l k x) v') ∧ Chg w w' (fun x => x = rb) := by
  have hfew := hw.few
  have MY := Lib.hid (rgmay_any k h hw hk)
  have LS := Lib.hid (rglast_any k h (by omega))
  have HR := Lib.hid h
  have hgl := hw.glk_le k
  by_cases hm : mayC l k = 0
  · rw [hm] at MY
    by_cases hb : x < 1 ∨ 2147483648 < x
    · obtain ⟨e1, e2⟩ := st_bd hm hb
      rw [e1, stG_no (by rw [e1]; decide)]
      have hor : x < 1 ∨ ¬ x < 1 ∧ 2147483648 < x := by omega
      clear e1 e2 hm hb h hw
      rcases hor with hI | ⟨hI, hJ⟩
      all_goals
        go_enter Tryz.func32, Tryz.ntmps32
        go_wp2_with fail
        refine MY.out.mono ?_
        rintro e w1 ⟨rfl, rfl⟩
        go_wp2_with fail
        go_ret
        exact ⟨rfl, ⟨v, HR.out⟩, Chg.refl _ _⟩
    · obtain ⟨e1, e2⟩ := st_ok hm hb
      have ST := Lib.hid (rgset_any k (stN l k x) h (by omega))
      rw [e1, stG_yes e1]
      have hI : ¬ x < 1 := by omega
      have hJ : ¬ 2147483648 < x := by omega
      have hor : ((glk l k : Nat) : Int) < x ∧ ((stN l k x : Nat) : Int) = x ∨ ¬ ((glk l k : Nat) : Int) < x ∧ ((stN l k x : Nat) : Int) = (glk l k : Nat) := by
        unfold stN
        by_cases h : ((glk l k : Nat) : Int) < x
        · rw [if_pos h]; exact .inl ⟨h, by omega⟩
        · rw [if_neg h]; exact .inr ⟨h, rfl⟩
      clear e1 e2 hm hb h hw
      generalize stN l k x = y at *
      generalize glk l k = z at *
      rcases hor with ⟨h1, h2⟩ | ⟨h1, h2⟩
      all_goals
        rw [h2] at ST
        clear h2
        go_enter Tryz.func32, Tryz.ntmps32
        go_wp2_with fail
        refine MY.out.mono ?_
        rintro e w1 ⟨rfl, rfl⟩
        go_wp2_with fail
        refine LS.out.mono ?_
        rintro e w1 ⟨rfl, rfl⟩
        go_wp2_with fail
        refine ST.out.mono ?_
        rintro e w2 ⟨rfl, rg, ch⟩
        have RG := Lib.hid rg
        have CH := Lib.hid ch
        clear rg ch
        go_wp2_with fail
        go_ret
        exact ⟨rfl, RG.out, CH.out⟩
  · obtain ⟨e1, e2⟩ := st_may (m := l) (k := k) (n := x) hm
    rw [e1, stG_no (by rw [e1]; exact hm)]
    have hI : (0 : Int) < ((mayC l k : Nat) : Int) := by omega
    clear e1 e2 hm h hw
    generalize mayC l k = c at *
    go_enter Tryz.func32, Tryz.ntmps32
    go_wp2_with fail
    refine MY.out.mono ?_
    rintro e w1 ⟨rfl, rfl⟩
    go_wp2_with fail
    go_ret
    exact ⟨rfl, ⟨v, HR.out⟩, Chg.refl _ _⟩
theorem gtext_snoc (l : GM) (j : Nat) (h : j < l.length) : gtext (l.take (j + 1)) = gtext (l.take j) ++ lineG l[j] := by
  rw [List.take_succ_eq_append_getElem h]
  unfold gtext
  rw [List.flatMap_append]
  simp
theorem gtext_take {l : GM} (h : GWF l) (j : Nat) : (gtext (l.take j)).length ≤ 600 := by
  refine gtext_le ⟨?_, fun p hp => h.nm p (List.mem_of_mem_take hp), fun p hp => h.ep p (List.mem_of_mem_take hp), by rw [List.length_take]; have := h.few; omega⟩
  exact List.Pairwise.sublist (List.take_sublist _ _) h.srt
attribute [local irreducible] gtext
set_option maxRecDepth 100000 in
set_option maxHeartbeats 6400000 in
theorem rgtext_any (h : RgAt w rb l v) (hw : GWF l) :
    Calls Tryz.prog 34 #[.pointer (some ⟨rb, 0, none⟩)] w fun e w' => e = .returned (.string (bs (gtext l))) ∧ Below w.heap.size w w' := by
  have HW := Lib.hid hw
  have HR := Lib.hid h
  obtain ⟨va, vc, rfl⟩ := h.slice
  have hg := Lib.hid (SliceIs.ownedK h.own)
  have hfew := hw.few
  clear h hw
  go_enter Tryz.func34, Tryz.ntmps34
  go_wp2_with fail
  go_loopw [3, 4] (fun o i wr => ∃ j : Nat, i = .int .i64 j ∧ j ≤ l.length ∧ o = .string (bs (gtext (l.take j))) ∧ Below w.heap.size w wr) (fun _ i _ => l.length - (intOf i).toNat)
  case atStart => exact ⟨0, rfl, by omega, by rw [List.take_zero, show gtext [] = [] by unfold gtext; rfl, bs_nil], Below.refl _ _⟩
  case round =>
    obtain ⟨j, rfl, hj, rfl, bel⟩ := hrel
    have c0 := (HR.out.below bel).c0
    have BW := Lib.hid bel
    clear bel
    by_cases hlt : j < l.length
    · have hltI : (j : Int) < l.length := by omega
      obtain ⟨s0', n0', c0', e1, _, _, _, g1⟩ := (hg.out.below BW.out).get
      cases e1
      obtain ⟨g2, g3⟩ := tkc_get l j hlt
      obtain ⟨ad, hva, d0⟩ := g1 _ _ g2
      obtain ⟨a', e', d1⟩ := g1 _ _ g3
      subst hva
      cases e'
      clear g1 g2 g3
      have d1 := cell_at d1
      have x1 : (0 : Int) ≤ j := by omega
      have x2 : (j : Int).toNat = j := by omega
      have hp := (HW.out.ep _ (List.getElem_mem hlt)).2
      have DC := Lib.hid (fun w' => rdecimal_any (l[j]'hlt).2 w' (by omega))
      have hTL := gtext_take HW.out j
      have hnl := ((nameB_iff _).1 (HW.out.nm _ (List.getElem_mem hlt))).2.1
      have hdl := dec_len_le (n := (l[j]'hlt).2) (k := 18) (by omega)
      have LN := Lib.hid (gtext_snoc l j hlt)
      have KK := Lib.hid (show j + 1 ≤ l.length from hlt)
      generalize l[j]'hlt = x at d0 d1 DC hp hnl hdl LN
      generalize gtext (l.take j) = T at *
      have LNB : Hid (bs T ++ bs x.1 ++ ⟨#[32]⟩ ++ bs (Lib.decDigits x.2) ++ ⟨#[10]⟩ = bs (T ++ lineG x)) := Lib.hid (by apply eq_bs; simp [lineG])
      have hTz : (bs T).size = T.length := bs_size T
      have hnz : (bs x.1).size = x.1.length := bs_size _
      have hdz : (bs (Lib.decDigits x.2)).size = (Lib.decDigits x.2).length := bs_size _
      have k0 : ¬ 9223372036854775807 < T.length + x.1.length := by omega
      have k1 : ¬ 9223372036854775807 < T.length + x.1.length + 1 := by omega
      have k2 : ¬ 9223372036854775807 < T.length + x.1.length + 1 + (Lib.decDigits x.2).length := by omega
      have k3 : ¬ 9223372036854775807 < T.length + x.1.length + 1 + (Lib.decDigits x.2).length + 1 := by omega
      have CE := Lib.hid (fun (X : World) (b : Below wr.heap.size wr X) => show X.cell? ⟨rb, 0, none⟩ = some (.slice (some ad) l.length vc) ∧ X.cell? (ad.add (j * 2)) = some (.string (bs x.1)) ∧ X.cell? ⟨(ad.add (j * 2)).block, (ad.add (j * 2)).off + 1, none⟩ = some (.int .i64 x.2) from ⟨(b.cell (World.block_lt_of_cell? wr _ c0)).trans c0, (b.cell (World.block_lt_of_cell? wr _ d0)).trans d0, (b.cell (World.block_lt_of_cell? wr _ d1)).trans d1⟩)
      go_wp2_with fail
      go_region_held3 (fun X => X.cell? ⟨rb, 0, none⟩ = some (.slice (some ad) l.length vc) ∧ X.cell? (ad.add (j * 2)) = some (.string (bs x.1)) ∧ X.cell? ⟨(ad.add (j * 2)).block, (ad.add (j * 2)).off + 1, none⟩ = some (.int .i64 x.2)) (first | exact CE.out _ (Below.drew (Below.refl _ _)) | exact CE.out _ (below_trans' (Below.drew (Below.refl _ _)) ‹_›)) (first | (go_at_call 58; refine (DC.out _).mono ?_; rintro e w2 ⟨rfl, b2⟩))
      go_wp2_with fail
      go_roundw
      case rel => exact ⟨j + 1, (by have h1 := KK.out; have h2 := HW.out.few; go_num), KK.out, by rw [LN.out, LNB.out], below_trans' BW.out (below_trans' (Below.drew (Below.refl _ _)) ‹_›)⟩
      case measure => have h1 := KK.out; simp [intOf]; omega
    · have hltI : ¬ (j : Int) < l.length := by omega
      obtain rfl : j = l.length := by omega
      rw [List.take_length]
      go_wp2_with fail
      go_ret
      exact ⟨rfl, BW.out⟩
end
end Go.Proofs.YtkjcclbnbbbfaaaGreatDoor
