/- Texts of one proof, one behind the other: Ops2, Maker, Maker2, Make, DeltaText, OpRead, DeltaRead, DeltaLaws, SameOps. -/
import Derived.Test.YtdpoalbbcmkceaaGreatDoorB25
import Derived.Laws.AppendOwnNone
/- Contracts of ops: delta.Check, Cost; the statements' longOps, ownOps. -/
namespace Go.Proofs.YtdpoalbbcmkceaaGreatDoor
open Go.RowKit

theorem ops_len {w : World} {s0 : Option Addr} {n0 c0 : Nat} {l : List POp} (hl : SliceIs w (.slice s0 n0 c0) 4 (ocells l)) : l.length = n0 ∧ c0 ≤ 9223372036854775807 ∧ n0 ≤ c0 := by
  obtain ⟨s0', n0', c0', e1, e2, e3, e4, _⟩ := hl.get
  cases e1
  rw [ocells_len] at e2
  unfold maxLen at e4
  exact ⟨by omega, by omega, e3⟩
/-- the cells of one op -/
theorem ops_cells {w : World} {s0 : Option Addr} {n0 c0 : Nat} {l : List POp} (hl : SliceIs w (.slice s0 n0 c0) 4 (ocells l)) (k : Nat) (hk : k < l.length) :
    ∃ a, s0 = some a ∧ w.cell? (a.add (k * 4)) = some (.string (bs l[k].kind)) ∧ w.cell? ⟨(a.add (k * 4)).block, (a.add (k * 4)).off + (0 + 1), none⟩ = some (.int .i64 l[k].a) ∧
      w.cell? ⟨(a.add (k * 4)).block, (a.add (k * 4)).off + (1 + 1), none⟩ = some (.int .i64 l[k].n) ∧ w.cell? ⟨(a.add (k * 4)).block, (a.add (k * 4)).off + (2 + 1), none⟩ = some (.string (bs l[k].data)) := by
  obtain ⟨s0', n0', c0', e1, _, _, _, g1⟩ := hl.get
  cases e1
  obtain ⟨g2, g3, g4, g5⟩ := ocells_get l k hk
  obtain ⟨a, rfl, d0⟩ := g1 _ _ g2
  obtain ⟨a', e', d1⟩ := g1 _ _ g3
  cases e'
  obtain ⟨a', e', d2⟩ := g1 _ _ g4
  cases e'
  obtain ⟨a', e', d3⟩ := g1 _ _ g5
  cases e'
  exact ⟨a, rfl, d0, cell_at d1, cell_at d2, cell_at d3⟩

set_option maxRecDepth 100000 in
set_option maxHeartbeats 3200000 in
theorem dcheck_any (E : Nat → Addr) (s0 : Option Addr) (n0 c0 : Nat) (l : List POp) (w : World) (hl : SliceIs w (.slice s0 n0 c0) 4 (ocells l)) (h2 : Has E w 2) (h3 : Has E w 3) (h4 : Has E w 4) :
    Calls Tryz.prog 97 #[.slice s0 n0 c0] w fun e w' => ∃ v, e = .returned v ∧ FErr E w' v (chkOps l).1 (chkOps l).2 ∧ Below w.heap.size w w' := by
  obtain ⟨rfl, hc0, hc1⟩ := ops_len hl
  have HLS := Lib.hid hl
  have HB := Lib.hid h2
  have HS := Lib.hid h3
  have HK := Lib.hid h4
  have HCH := Lib.hid (show chkOps l = chkO (l.drop 0) 0 by unfold chkOps; rfl)
  clear hl h2 h3 h4
  go_enter Tryz.func97, Tryz.ntmps97
  go_wp2_with fail
  go_loopw [8, 3, 4, 5] (fun i _ _ _ wr => ∃ k : Nat, i = .int .i64 k ∧ k ≤ l.length ∧ chkOps l = chkO (l.drop k) k ∧ Below w.heap.size w wr) (fun i _ _ _ _ => l.length - (intOf i).toNat)
  case atStart => exact ⟨0, rfl, by omega, HCH.out, Below.refl _ _⟩
  case round =>
    obtain ⟨k, rfl, hk, hf, bel⟩ := hrel
    have HF := Lib.hid hf
    clear hf
    by_cases hlt : k < l.length
    · have hltI : (k : Int) < l.length := by omega
      obtain ⟨ad, rfl, d0, d1, d2, d3⟩ := ops_cells (HLS.out.below bel) k hlt
      have KK := Lib.hid (show k + 1 ≤ l.length by omega)
      have BAD := Lib.hid (fun hb => HF.out.trans (chkO_bad hlt hb))
      have NEXT := Lib.hid (fun hb => HF.out.trans (chkO_next hlt hb))
      have x1 : (0 : Int) ≤ k := by omega
      have x2 : (k : Int).toNat = k := by omega
      generalize l[k] = o at d0 d1 d2 d3 BAD NEXT
      have belA := bel.alloc bel.size (.cells #[.string (bs o.kind), .int .i64 o.a, .int .i64 o.n, .string (bs o.data)] 171)
      have OC := opcheck_any E o (wr.alloc (.cells #[.string (bs o.kind), .int .i64 o.a, .int .i64 o.n, .string (bs o.data)] 171)) (HB.out.below belA) (HS.out.below belA) (HK.out.below belA)
      unfold POp.val at OC
      by_cases hc : opC o = 0
      · rw [hc, ev_zero] at OC
        have HO := Lib.hid OC
        have N := Lib.hid (NEXT.out hc)
        clear OC hc NEXT BAD
        go_wp2_with fail
        refine HO.out.mono ?_
        rintro e w1 ⟨rfl, b1⟩
        have bel1 := below_trans' belA b1
        clear b1 HO belA bel
        go_wp2_with fail
        go_roundw
        case rel => exact ⟨k + 1, by go_num, KK.out, N.out, bel1⟩
        case measure => simp [intOf]; omega
      · have N := Lib.hid (BAD.out hc)
        rw [ev_is E hc] at OC
        unfold errv at OC
        have HO := Lib.hid OC
        have HC := Lib.hid hc
        clear OC hc NEXT BAD
        go_wp2_with fail
        refine HO.out.mono ?_
        rintro e w1 ⟨rfl, b1⟩
        have bel1 := below_trans' belA b1
        clear b1 HO belA bel
        go_wp2_with fail
        go_ret
        exact ⟨_, rfl, FErr.new E _ _ HC.out _ _ (by simp) _ N.out, bel1.alloc bel1.size _⟩
    · have hltI : ¬ (k : Int) < l.length := by omega
      have hb := Lib.hid (HF.out.trans (chkO_end (by omega : l.length ≤ k)))
      go_wp2_with fail
      go_ret
      exact ⟨_, rfl, by rw [hb.out]; exact FErr.nil E _, bel⟩

theorem costN_le (l : List POp) (k : Nat) : costN (l.take k) ≤ costN l := by
  have := costN_append (l.take k) (l.drop k)
  rw [List.take_append_drop] at this
  omega
theorem longB_yes {l : List POp} (h : 40 < l.length) : longB l = true := by simp [longB, h]
theorem longB_at {l : List POp} {k : Nat} (hk : k < l.length) (h : (100 < l[k].data.length ∧ l[k].data.length ≠ 4001) ∨ 20 < l[k].kind.length) : longB l = true := by
  unfold longB
  rw [Bool.or_eq_true, List.any_eq_true]
  exact .inr ⟨l[k], List.getElem_mem hk, by simp; omega⟩
theorem longB_none {l : List POp} (h0 : l.length ≤ 40) (h : ∀ o ∈ l, ¬ ((100 < o.data.length ∧ o.data.length ≠ 4001) ∨ 20 < o.kind.length)) : longB l = false := by
  unfold longB
  rw [Bool.or_eq_false_iff, List.any_eq_false]
  refine ⟨by simp; omega, fun o ho => ?_⟩
  have := h o ho
  simp; omega

theorem info_op : (Tryz.prog.info? 171).map (fun i => (i.zero, i.size, i.bytes)) = some (some (.agg #[.string ⟨#[]⟩, .int .i64 0, .int .i64 0, .string ⟨#[]⟩]), 4, 48) := by kernel_rfl
end Go.Proofs.YtdpoalbbcmkceaaGreatDoor
/- Contracts of delta's maker: copy, data. -/
namespace Go.Proofs.YtdpoalbbcmkceaaGreatDoor
open Go.RowKit
set_option linter.unusedVariables false

def addCopy (l : List POp) (k : Int) : List POp :=
  match l.getLast? with
  | none => l ++ [⟨kCopy, k, 1, []⟩]
  | some o => if o.kind = kCopy ∧ o.a + o.n = k then l.dropLast ++ [⟨o.kind, o.a, o.n + 1, o.data⟩] else l ++ [⟨kCopy, k, 1, []⟩]
def addData (l : List POp) (d : List UInt8) : List POp :=
  match l.getLast? with
  | none => l ++ [⟨kData, 0, 0, d⟩]
  | some o => if o.kind = kData then l.dropLast ++ [⟨o.kind, o.a, o.n, o.data ++ d⟩] else l ++ [⟨kData, 0, 0, d⟩]
theorem addCopy_nil (k : Int) : addCopy [] k = [] ++ [⟨kCopy, k, 1, []⟩] := rfl
theorem addCopy_more (m : List POp) (o : POp) (k : Int) (h : o.kind = kCopy ∧ o.a + o.n = k) : addCopy (m ++ [o]) k = m ++ [⟨o.kind, o.a, o.n + 1, o.data⟩] := by unfold addCopy; simp [h]
theorem addCopy_new (m : List POp) (o : POp) (k : Int) (h : ¬ (o.kind = kCopy ∧ o.a + o.n = k)) : addCopy (m ++ [o]) k = (m ++ [o]) ++ [⟨kCopy, k, 1, []⟩] := by
  unfold addCopy
  rw [List.getLast?_append]
  simp only [List.getLast?_singleton, Option.some_or]
  rw [if_neg h]
theorem addData_nil (d : List UInt8) : addData [] d = [] ++ [⟨kData, 0, 0, d⟩] := rfl
theorem addData_more (m : List POp) (o : POp) (d : List UInt8) (h : o.kind = kData) : addData (m ++ [o]) d = m ++ [⟨o.kind, o.a, o.n, o.data ++ d⟩] := by unfold addData; simp [h]
theorem addData_new (m : List POp) (o : POp) (d : List UInt8) (h : o.kind ≠ kData) : addData (m ++ [o]) d = (m ++ [o]) ++ [⟨kData, 0, 0, d⟩] := by
  unfold addData
  rw [List.getLast?_append]
  simp only [List.getLast?_singleton, Option.some_or]
  rw [if_neg h]
attribute [irreducible] addCopy addData

/-- a maker at block b -/
def MRaw (w : World) (b : Nat) (v : Value) (l : List POp) : Prop := w.heap[b]? = some (.cells #[v] 167 (0, 0)) ∧ w.ownsRow (b + 1) 171 4 v l.length (ocells l)
def MAt (w : World) (b : Nat) (l : List POp) : Prop := ∃ v, MRaw w b v l
theorem MRaw.lt {w : World} {b : Nat} {v : Value} {l : List POp} (h : MRaw w b v l) : b < w.heap.size := lt_of_block h.1
theorem MAt.lt {w : World} {b : Nat} {l : List POp} (h : MAt w b l) : b < w.heap.size := by obtain ⟨v, h⟩ := h; exact h.lt
theorem MRaw.c0 {w : World} {b : Nat} {v : Value} {l : List POp} (h : MRaw w b v l) : w.cell? ⟨b, 0, none⟩ = some v := by have := h.1; simp [World.cell?, this]
theorem MRaw.below {w w' : World} {b : Nat} {v : Value} {l : List POp} (h : MRaw w b v l) (hb : Below w.heap.size w w') : MRaw w' b v l :=
  ⟨(hb.block b h.lt).trans h.1, owns_below h.2 hb⟩
theorem MAt.below {w w' : World} {b : Nat} {l : List POp} (h : MAt w b l) (hb : Below w.heap.size w w') : MAt w' b l := by obtain ⟨v, h⟩ := h; exact ⟨v, h.below hb⟩
theorem MAt.new (w : World) : MAt (w.alloc (.cells #[.slice none 0 0] 167)) w.heap.size [] :=
  ⟨.slice none 0 0, heap_alloc_new _ _, by rw [ocells_nil]; exact World.ownsRow_nil _ _ _ _⟩
theorem MRaw.grown {w w' : World} {o : Obj} {b : Nat} {v : Value} {l : List POp} (h : MRaw w b v l) (hg : (w.alloc o).grownBy w' v.ownBlock) : w'.heap[b]? = some (.cells #[v] 167 (0, 0)) :=
  (hg.block b (by have := h.lt; simp; omega) (fun e => by have := h.2.lt b e.symm; omega)).trans ((Below.heap_alloc w o b h.lt).trans h.1)
theorem MRaw.cg {w w' : World} {o : Obj} {b : Nat} {v : Value} {l : List POp} (h : MRaw w b v l) (hg : (w.alloc o).grownBy w' v.ownBlock) : w'.cell? ⟨b, 0, none⟩ = some v := by simp [World.cell?, h.grown hg]
theorem MRaw.fg {w w' : World} {o : Obj} {b : Nat} {v : Value} {l : List POp} (h : MRaw w b v l) (hg : (w.alloc o).grownBy w' v.ownBlock) : w'.frozen? ⟨b, 0, none⟩ = false := by simp [World.frozen?, h.grown hg]
theorem MRaw.tail {w w' : World} {o : Obj} {b : Nat} {v v' : Value} {l : List POp} {p : POp} (h : MRaw w b v l) (h1 : w'.ownsRow (b + 1) 171 4 v' (l.length + 1) (ocells l ++ p.vals)) (hg : (w.alloc o).grownBy w' v.ownBlock) :
    MAt (w'.setCell ⟨b, 0, none⟩ v') b (l ++ [p]) ∧ Below b w (w'.setCell ⟨b, 0, none⟩ v') := by
  refine ⟨⟨v', set_at (h.grown hg), ?_⟩, ((((Below.refl b w).alloc (Nat.le_of_lt h.lt) o).grown hg (by have := h.lt; simp; omega) (fun k hk => by have := h.2.lt k hk; omega)).setCell (p := ⟨b, 0, none⟩) (Nat.le_refl _) _)⟩
  have := ownsRow_setCell_below h1 (a := ⟨b, 0, none⟩) (Nat.lt_succ_self b) v'
  rw [ocells_append, ocells_one, List.length_append]
  exact this
theorem four_news {w : World} {b : Nat} {u0 u1 u2 u3 : Value} (h : w.heap[b]? = some (.cells #[u0, u1, u2, u3] 171 (0, 0))) : ∀ j u', [u0, u1, u2, u3][j]? = some u' → w.cell? ((⟨b, 0, none⟩ : Addr).add j) = some u' := by
  intro j u' hj
  match j, hj with
  | 0, hj => simp at hj; subst hj; simp [World.cell?, h, Addr.add]
  | 1, hj => simp at hj; subst hj; simp [World.cell?, h, Addr.add]
  | 2, hj => simp at hj; subst hj; simp [World.cell?, h, Addr.add]
  | 3, hj => simp at hj; subst hj; simp [World.cell?, h, Addr.add]

theorem split_last (l : List POp) : l = [] ∨ ∃ m o, l = m ++ [o] := by
  rcases List.eq_nil_or_concat l with h | ⟨m, o, h⟩
  · exact .inl h
  · exact .inr ⟨m, o, by simpa using h⟩
/-- the last op's cells -/
theorem MRaw.last {w : World} {b : Nat} {v : Value} {m : List POp} {o : POp} (h : MRaw w b v (m ++ [o])) : ∃ g cap, v = .slice (some ⟨g, 0, none⟩) (m.length + 1) cap ∧ b < g ∧ m.length + 1 ≤ cap ∧ cap ≤ maxLen ∧ w.cell? ⟨g, m.length * 4, none⟩ = some (.string (bs o.kind)) ∧ w.cell? ⟨g, m.length * 4 + 1, none⟩ = some (.int .i64 o.a) ∧
    w.cell? ⟨g, m.length * 4 + 2, none⟩ = some (.int .i64 o.n) ∧ w.cell? ⟨g, m.length * 4 + 3, none⟩ = some (.string (bs o.data)) ∧ (∀ j, w.frozen? ⟨g, j, none⟩ = false) := by
  obtain ⟨g, cap, hv, hg, _, h3, h4, hc, hf⟩ := owns_open h.2 (by simp)
  obtain ⟨g0, g1, g2, g3⟩ := ocells_get (m ++ [o]) m.length (by simp)
  simp only [List.getElem_append_right (Nat.le_refl _), Nat.sub_self, List.getElem_singleton] at g0 g1 g2 g3
  exact ⟨g, cap, by rw [hv]; simp, by omega, by simpa using h3, h4, hc _ _ g0, hc _ _ g1, hc _ _ g2, hc _ _ g3, hf⟩

theorem below_undrew {b n : Nat} {w w' : World} (h : Below b (w.drewN n) w') : Below b w w' := ⟨h.os, h.tape, h.output, h.size, h.block⟩
theorem MRaw.store {w : World} {b g cap : Nat} {m : List POp} {o p : POp} (j : Nat) (u : Value) (h : MRaw w b (.slice (some ⟨g, 0, none⟩) (m.length + 1) cap) (m ++ [o])) (hj : j < 4) (hp : o.vals.set j u = p.vals) :
    MAt (w.setCell ⟨g, m.length * 4 + j, none⟩ u) b (m ++ [p]) ∧ Below b w (w.setCell ⟨g, m.length * 4 + j, none⟩ u) := by
  have hn : (m ++ [o]).length = m.length + 1 := by simp
  have ho := h.2
  rw [hn] at ho
  have hg := ho.lt g rfl
  have hs := ho.stored (m.length * 4 + j) u
  have hc : (ocells (m ++ [o])).set (m.length * 4 + j) u = ocells (m ++ [p]) := by
    rw [ocells_append, ocells_append, ocells_one, ocells_one, List.set_append_right _ _ (by rw [ocells_len]; omega), ocells_len, Nat.add_sub_cancel_left, hp]
  refine ⟨⟨.slice (some ⟨g, 0, none⟩) (m.length + 1) cap, ?_, ?_⟩, (Below.refl b w).setCell (p := ⟨g, m.length * 4 + j, none⟩) (by show b ≤ g; omega) u⟩
  · exact (Below.heap_setCell w ⟨g, m.length * 4 + j, none⟩ u b (by show b ≠ g; omega)).trans h.1
  · rw [show (m ++ [p]).length = m.length + 1 by simp, ← hc]; exact hs.1
theorem copyVals (k : Int) : POp.vals ⟨kCopy, k, 1, []⟩ = [.string ⟨#[99, 111, 112, 121]⟩, .int .i64 k, .int .i64 1, .string ⟨#[]⟩] := by simp only [POp.vals, bs_kCopy, bs_nil]
theorem dataVals (d : List UInt8) : POp.vals ⟨kData, 0, 0, d⟩ = [.string ⟨#[100, 97, 116, 97]⟩, .int .i64 0, .int .i64 0, .string (bs d)] := by simp only [POp.vals, bs_kData]

set_option maxRecDepth 100000 in
set_option maxHeartbeats 3200000 in
theorem mcopy_any (b : Nat) (l : List POp) (k : Int) (w : World) (h : MAt w b l) (hl : l.length ≤ 1000000) (hb : ∀ o ∈ l, 0 ≤ o.a ∧ o.a ≤ 1000000 ∧ 0 ≤ o.n ∧ o.n ≤ 1000000 ∧ o.data.length ≤ 1000000) (hk : 0 ≤ k ∧ k ≤ 1000000) :
    Calls Tryz.prog 95 #[.pointer (some ⟨b, 0, none⟩), .int .i64 k] w fun e w' => e = .returned (.tuple #[]) ∧ MAt w' b (addCopy l k) ∧ Below b w w' := by
  obtain ⟨i0, hi, hz0, hz1, hz2⟩ := info_parts info_op
  obtain ⟨v, h⟩ := h
  have c0 := h.c0
  rcases split_last l with rfl | ⟨m, o, rfl⟩
  · have HR := Lib.hid h
    have hown := h.2
    obtain ⟨A, cap, rfl⟩ := owns_sl hown
    rw [addCopy_nil]
    clear h hb hl hown
    go_enter Tryz.func95, Tryz.ntmps95
    go_wp2_with fail
    go_quiet (fail)
    have NEWC : Hid (∀ u ∈ ([.string ⟨#[99, 111, 112, 121]⟩, .int .i64 k, .int .i64 1, .string ⟨#[]⟩] : List Value), u.oneCell' = true) := fun u hu => by simp at hu; rcases hu with rfl | rfl | rfl | rfl <;> rfl
    have OWN := Lib.hid (show World.ownsRow (w.drewN nq) (b + 1) 171 4 _ 0 _ from HR.out.2)
    have WR := Lib.hid (show MRaw (w.drewN nq) b _ _ from HR.out)
    have HM1 : Hid (0 + 1 ≤ maxLen) := by show _ ≤ _; unfold maxLen; omega
    have HM2 : Hid ((0 + 1) * 48 ≤ 140737488355328) := by show _ ≤ _; omega
    have HM3 : Hid (b + 1 ≤ ((w.drewN nq).alloc (.cells #[.string ⟨#[99, 111, 112, 121]⟩, .int .i64 k, .int .i64 1, .string ⟨#[]⟩] 171)).heap.size) := by show _ ≤ _; have := HR.out.lt; simp; omega
    go_wp2_with (at_builtin; refine wpList_append_own _ rfl _ _ 122 rfl (b + 1) 171 i0 _ 4 48 Tryz.underlying122 hi hz0 hz1 hz2 rfl (by decide) _ _ _ rfl (OWN.out.alloc _) ⟨w.heap.size, 0, none⟩ 1 1 [.string ⟨#[99, 111, 112, 121]⟩, .int .i64 k, .int .i64 1, .string ⟨#[]⟩] rfl rfl (four_news (heap_alloc_new (w.drewN nq) _)) (fun u hu => NEWC.out u hu) HM1.out HM2.out HM3.out ?_; intro v' w3 hown' hgrow _; obtain ⟨A', q', rfl⟩ := owns_sl hown'; have fb := MRaw.fg WR.out hgrow; have cb := MRaw.cg WR.out hgrow)
    have T := MRaw.tail (p := ⟨kCopy, k, 1, []⟩) WR.out (by rw [copyVals]; exact hown') hgrow
    go_returns
    exact ⟨rfl, T.1, by first | exact T.2 | exact below_undrew T.2⟩
  · obtain ⟨g, cap, rfl, hg, hc1, hc2, d0, d1, d2, d3, df⟩ := h.last
    obtain ⟨y1, y2, y3, y4, y5⟩ := hb o (by simp)
    have hml : m.length ≤ 1000000 := by simp at hl; omega
    have HR := Lib.hid h
    have HDF := Lib.hid df
    clear h hb hl df
    unfold maxLen at hc2
    by_cases hkk : o.kind = kCopy
    · have k1 := tl_eq o.kind [99, 111, 112, 121] (by rw [hkk, kCopy_is])
      by_cases hak : o.a + o.n = k
      · rw [addCopy_more m o k ⟨hkk, hak⟩]
        have q1 : (o.a + o.n == k) = true := by simp [hak]
        have HAK := Lib.hid hak
        have f2 := HDF.out (m.length * 4 + 2)
        clear hkk hak
        go_enter Tryz.func95, Tryz.ntmps95
        go_wp2_with fail
        go_quiet (fail)
        go_wp2_with fail
        have T := (MRaw.store (w := w.drewN nq) (p := ⟨o.kind, o.a, o.n + 1, o.data⟩) 2 (.int .i64 (o.n + 1)) HR.out (by decide) rfl)
        go_returns
        exact ⟨rfl, T.1, below_undrew T.2⟩
      · rw [addCopy_new m o k (fun h => hak h.2)]
        have q1 : (o.a + o.n == k) = false := by simp [hak]
        have HLEN : (m ++ [o]).length = m.length + 1 := by simp
        have HLN := Lib.hid HLEN
        clear hkk hak HLEN
        go_enter Tryz.func95, Tryz.ntmps95
        go_wp2_with fail
        go_quiet (fail)
        have NEWC : Hid (∀ u ∈ ([.string ⟨#[99, 111, 112, 121]⟩, .int .i64 k, .int .i64 1, .string ⟨#[]⟩] : List Value), u.oneCell' = true) := fun u hu => by simp at hu; rcases hu with rfl | rfl | rfl | rfl <;> rfl
        have OWN := Lib.hid (show World.ownsRow (w.drewN nq) (b + 1) 171 4 (.slice (some ⟨g, 0, none⟩) (m.length + 1) cap) (m.length + 1) (ocells (m ++ [o])) from (by have := HR.out.2; rw [HLN.out] at this; exact this))
        have WR := Lib.hid (show MRaw (w.drewN nq) b _ _ from HR.out)
        have HM1 : Hid ((m.length + 1) + 1 ≤ maxLen) := by show _ ≤ _; unfold maxLen; omega
        have HM2 : Hid (((m.length + 1) + 1) * 48 ≤ 140737488355328) := by show _ ≤ _; omega
        have HM3 : Hid (b + 1 ≤ ((w.drewN nq).alloc (.cells #[.string ⟨#[99, 111, 112, 121]⟩, .int .i64 k, .int .i64 1, .string ⟨#[]⟩] 171)).heap.size) := by show _ ≤ _; have := HR.out.lt; simp; omega
        go_wp2_with (at_builtin; refine wpList_append_own _ rfl _ _ 122 rfl (b + 1) 171 i0 _ 4 48 Tryz.underlying122 hi hz0 hz1 hz2 rfl (by decide) _ _ _ rfl (OWN.out.alloc _) ⟨w.heap.size, 0, none⟩ 1 1 [.string ⟨#[99, 111, 112, 121]⟩, .int .i64 k, .int .i64 1, .string ⟨#[]⟩] rfl rfl (four_news (heap_alloc_new (w.drewN nq) _)) (fun u hu => NEWC.out u hu) HM1.out HM2.out HM3.out ?_; intro v' w3 hown' hgrow _; obtain ⟨A', q', rfl⟩ := owns_sl hown'; have fb := MRaw.fg WR.out hgrow; have cb := MRaw.cg WR.out hgrow)
        have T := MRaw.tail (p := ⟨kCopy, k, 1, []⟩) WR.out (by rw [copyVals, HLN.out]; exact hown') hgrow
        go_returns
        exact ⟨rfl, T.1, by first | exact T.2 | exact below_undrew T.2⟩
    · have k1 := tl_ne o.kind [99, 111, 112, 121] (by rw [← kCopy_is]; exact hkk)
      rw [addCopy_new m o k (fun h => hkk h.1)]
      have HLEN : (m ++ [o]).length = m.length + 1 := by simp
      clear hkk
      have HLN := Lib.hid HLEN
      clear HLEN
      go_enter Tryz.func95, Tryz.ntmps95
      go_wp2_with fail
      go_quiet (fail)
      have NEWC : Hid (∀ u ∈ ([.string ⟨#[99, 111, 112, 121]⟩, .int .i64 k, .int .i64 1, .string ⟨#[]⟩] : List Value), u.oneCell' = true) := fun u hu => by simp at hu; rcases hu with rfl | rfl | rfl | rfl <;> rfl
      have OWN := Lib.hid (show World.ownsRow (w.drewN nq) (b + 1) 171 4 (.slice (some ⟨g, 0, none⟩) (m.length + 1) cap) (m.length + 1) (ocells (m ++ [o])) from (by have := HR.out.2; rw [HLN.out] at this; exact this))
      have WR := Lib.hid (show MRaw (w.drewN nq) b _ _ from HR.out)
      have HM1 : Hid ((m.length + 1) + 1 ≤ maxLen) := by show _ ≤ _; unfold maxLen; omega
      have HM2 : Hid (((m.length + 1) + 1) * 48 ≤ 140737488355328) := by show _ ≤ _; omega
      have HM3 : Hid (b + 1 ≤ ((w.drewN nq).alloc (.cells #[.string ⟨#[99, 111, 112, 121]⟩, .int .i64 k, .int .i64 1, .string ⟨#[]⟩] 171)).heap.size) := by show _ ≤ _; have := HR.out.lt; simp; omega
      go_wp2_with (at_builtin; refine wpList_append_own _ rfl _ _ 122 rfl (b + 1) 171 i0 _ 4 48 Tryz.underlying122 hi hz0 hz1 hz2 rfl (by decide) _ _ _ rfl (OWN.out.alloc _) ⟨w.heap.size, 0, none⟩ 1 1 [.string ⟨#[99, 111, 112, 121]⟩, .int .i64 k, .int .i64 1, .string ⟨#[]⟩] rfl rfl (four_news (heap_alloc_new (w.drewN nq) _)) (fun u hu => NEWC.out u hu) HM1.out HM2.out HM3.out ?_; intro v' w3 hown' hgrow _; obtain ⟨A', q', rfl⟩ := owns_sl hown'; have fb := MRaw.fg WR.out hgrow; have cb := MRaw.cg WR.out hgrow)
      have T := MRaw.tail (p := ⟨kCopy, k, 1, []⟩) WR.out (by rw [copyVals, HLN.out]; exact hown') hgrow
      go_returns
      exact ⟨rfl, T.1, by first | exact T.2 | exact below_undrew T.2⟩
end Go.Proofs.YtdpoalbbcmkceaaGreatDoor
/- Contract of delta's maker: data. -/
namespace Go.Proofs.YtdpoalbbcmkceaaGreatDoor
open Go.RowKit

set_option maxRecDepth 100000 in
set_option maxHeartbeats 3200000 in
theorem mdata_any (b : Nat) (l : List POp) (d : List UInt8) (w : World) (h : MAt w b l) (hl : l.length ≤ 1000000) (hb : ∀ o ∈ l, 0 ≤ o.a ∧ o.a ≤ 1000000 ∧ 0 ≤ o.n ∧ o.n ≤ 1000000 ∧ o.data.length ≤ 1000000) (hd : d.length ≤ 1000000) :
    Calls Tryz.prog 96 #[.pointer (some ⟨b, 0, none⟩), .string (bs d)] w fun e w' => e = .returned (.tuple #[]) ∧ MAt w' b (addData l d) ∧ Below b w w' := by
  obtain ⟨i0, hi, hz0, hz1, hz2⟩ := info_parts info_op
  obtain ⟨v, h⟩ := h
  have c0 := h.c0
  rcases split_last l with rfl | ⟨m, o, rfl⟩
  · have HR := Lib.hid h
    have hown := h.2
    obtain ⟨A, cap, rfl⟩ := owns_sl hown
    rw [addData_nil]
    clear h hb hl hown
    have NEWC : Hid (∀ u ∈ ([.string ⟨#[100, 97, 116, 97]⟩, .int .i64 0, .int .i64 0, .string (bs d)] : List Value), u.oneCell' = true) := fun u hu => by simp at hu; rcases hu with rfl | rfl | rfl | rfl <;> rfl
    have OWN := Lib.hid (show World.ownsRow w (b + 1) 171 4 _ 0 _ from HR.out.2)
    have WR := Lib.hid (show MRaw w b _ _ from HR.out)
    have HM1 : Hid (0 + 1 ≤ maxLen) := by show _ ≤ _; unfold maxLen; omega
    have HM2 : Hid ((0 + 1) * 48 ≤ 140737488355328) := by show _ ≤ _; omega
    have HM3 : Hid (b + 1 ≤ (w.alloc (.cells #[.string ⟨#[100, 97, 116, 97]⟩, .int .i64 0, .int .i64 0, .string (bs d)] 171)).heap.size) := by show _ ≤ _; have := HR.out.lt; simp; omega
    go_enter Tryz.func96, Tryz.ntmps96
    go_wp2_with (at_builtin; refine wpList_append_own _ rfl _ _ 122 rfl (b + 1) 171 i0 _ 4 48 Tryz.underlying122 hi hz0 hz1 hz2 rfl (by decide) _ _ _ rfl (OWN.out.alloc _) ⟨w.heap.size, 0, none⟩ 1 1 [.string ⟨#[100, 97, 116, 97]⟩, .int .i64 0, .int .i64 0, .string (bs d)] rfl rfl (four_news (heap_alloc_new w _)) (fun u hu => NEWC.out u hu) HM1.out HM2.out HM3.out ?_; intro v' w3 hown' hgrow _; obtain ⟨A', q', rfl⟩ := owns_sl hown'; have fb := MRaw.fg WR.out hgrow; have cb := MRaw.cg WR.out hgrow)
    have T := MRaw.tail (p := ⟨kData, 0, 0, d⟩) WR.out (by rw [dataVals]; exact hown') hgrow
    go_returns
    exact ⟨rfl, T.1, by first | exact T.2 | exact below_undrew T.2⟩
  · obtain ⟨g, cap, rfl, hg, hc1, hc2, d0, d1, d2, d3, df⟩ := h.last
    obtain ⟨y1, y2, y3, y4, y5⟩ := hb o (by simp)
    have hml : m.length ≤ 1000000 := by simp at hl; omega
    have HR := Lib.hid h
    have HDF := Lib.hid df
    clear h hb hl df
    unfold maxLen at hc2
    by_cases hkk : o.kind = kData
    · have k1 := tl_eq o.kind [100, 97, 116, 97] (by rw [hkk, kData_is])
      rw [addData_more m o d hkk]
      have f2 := HDF.out (m.length * 4 + 3)
      have hcat : ¬ 9223372036854775807 < o.data.length + d.length := by omega
      clear hkk
      go_enter Tryz.func96, Tryz.ntmps96
      go_wp2_with fail
      have T := (MRaw.store (w := w) (p := ⟨o.kind, o.a, o.n, o.data ++ d⟩) 3 (.string (bs o.data ++ bs d)) HR.out (by decide) (by rw [bsapp]; rfl))
      go_returns
      exact ⟨rfl, T.1, T.2⟩
    · have k1 := tl_ne o.kind [100, 97, 116, 97] (by rw [← kData_is]; exact hkk)
      rw [addData_new m o d hkk]
      have HLEN : (m ++ [o]).length = m.length + 1 := by simp
      clear hkk
      have HLN := Lib.hid HLEN
      clear HLEN
      have NEWC : Hid (∀ u ∈ ([.string ⟨#[100, 97, 116, 97]⟩, .int .i64 0, .int .i64 0, .string (bs d)] : List Value), u.oneCell' = true) := fun u hu => by simp at hu; rcases hu with rfl | rfl | rfl | rfl <;> rfl
      have OWN := Lib.hid (show World.ownsRow w (b + 1) 171 4 (.slice (some ⟨g, 0, none⟩) (m.length + 1) cap) (m.length + 1) (ocells (m ++ [o])) from (by have := HR.out.2; rw [HLN.out] at this; exact this))
      have WR := Lib.hid (show MRaw w b _ _ from HR.out)
      have HM1 : Hid ((m.length + 1) + 1 ≤ maxLen) := by show _ ≤ _; unfold maxLen; omega
      have HM2 : Hid (((m.length + 1) + 1) * 48 ≤ 140737488355328) := by show _ ≤ _; omega
      have HM3 : Hid (b + 1 ≤ (w.alloc (.cells #[.string ⟨#[100, 97, 116, 97]⟩, .int .i64 0, .int .i64 0, .string (bs d)] 171)).heap.size) := by show _ ≤ _; have := HR.out.lt; simp; omega
      go_enter Tryz.func96, Tryz.ntmps96
      go_wp2_with (at_builtin; refine wpList_append_own _ rfl _ _ 122 rfl (b + 1) 171 i0 _ 4 48 Tryz.underlying122 hi hz0 hz1 hz2 rfl (by decide) _ _ _ rfl (OWN.out.alloc _) ⟨w.heap.size, 0, none⟩ 1 1 [.string ⟨#[100, 97, 116, 97]⟩, .int .i64 0, .int .i64 0, .string (bs d)] rfl rfl (four_news (heap_alloc_new w _)) (fun u hu => NEWC.out u hu) HM1.out HM2.out HM3.out ?_; intro v' w3 hown' hgrow _; obtain ⟨A', q', rfl⟩ := owns_sl hown'; have fb := MRaw.fg WR.out hgrow; have cb := MRaw.cg WR.out hgrow)
      have T := MRaw.tail (p := ⟨kData, 0, 0, d⟩) WR.out (by rw [dataVals, HLN.out]; exact hown') hgrow
      go_returns
      exact ⟨rfl, T.1, by first | exact T.2 | exact below_undrew T.2⟩
end Go.Proofs.YtdpoalbbcmkceaaGreatDoor
/- Contract of delta.Make: what is new. -/
namespace Go.Proofs.YtdpoalbbcmkceaaGreatDoor
open Go.RowKit
set_option linter.unusedVariables false

/-- ops of the rest of a file -/
def mkA (l : List Blk) (size : Nat) : Nat → List UInt8 → List POp → List POp
  | 0, _, out => out
  | f + 1, s, out => if s = [] then out else
      if 0 ≤ findI l (blk (s.take size)) then mkA l size f (s.drop size) (addCopy out (findI l (blk (s.take size))))
      else mkA l size f (s.drop 1) (addData out (s.take 1))
def mkOps (l : List Blk) (size : Nat) (s : List UInt8) : List POp := mkA l size s.length s []
theorem mkA_end (l : List Blk) (size f : Nat) (out : List POp) : mkA l size f [] out = out := by cases f <;> simp [mkA]
theorem mkA_copy {l : List Blk} {size f : Nat} {s : List UInt8} {out : List POp} (hs : s ≠ []) (h : 0 ≤ findI l (blk (s.take size))) :
    mkA l size (f + 1) s out = mkA l size f (s.drop size) (addCopy out (findI l (blk (s.take size)))) := by rw [mkA, if_neg hs, if_pos h]
theorem mkA_data {l : List Blk} {size f : Nat} {s : List UInt8} {out : List POp} (hs : s ≠ []) (h : ¬ 0 ≤ findI l (blk (s.take size))) :
    mkA l size (f + 1) s out = mkA l size f (s.drop 1) (addData out (s.take 1)) := by rw [mkA, if_neg hs, if_neg h]
attribute [irreducible] mkA

/-- ops that are well, of i bytes -/
def OkOp (o : POp) (i : Nat) : Prop := (o.kind = kCopy ∧ o.data = [] ∧ 0 ≤ o.a ∧ o.a ≤ 4000 ∧ 1 ≤ o.n ∧ o.n ≤ i) ∨ (o.kind = kData ∧ o.a = 0 ∧ o.n = 0 ∧ 1 ≤ o.data.length ∧ o.data.length ≤ i)
def OkOut (out : List POp) (i : Nat) : Prop := out.length ≤ i ∧ costN out ≤ i ∧ ∀ o ∈ out, OkOp o i
theorem OkOp.mono {o : POp} {i j : Nat} (h : OkOp o i) (hj : i ≤ j) : OkOp o j := by
  rcases h with ⟨h1, h2, h3, h4, h5, h6⟩ | ⟨h1, h2, h3, h4, h5⟩
  · exact .inl ⟨h1, h2, h3, h4, h5, by omega⟩
  · exact .inr ⟨h1, h2, h3, h4, by omega⟩
theorem OkOut.nil (i : Nat) : OkOut [] i := ⟨by simp, by rw [costN_nil]; omega, by simp⟩
theorem OkOut.mono {out : List POp} {i j : Nat} (h : OkOut out i) (hj : i ≤ j) : OkOut out j := ⟨by have := h.1; omega, by have := h.2.1; omega, fun o ho => (h.2.2 o ho).mono hj⟩
theorem OkOut.copy {out : List POp} {i : Nat} {k : Int} (h : OkOut out i) (hk : 0 ≤ k ∧ k ≤ 4000) : OkOut (addCopy out k) (i + 1) := by
  obtain ⟨h1, h2, h3⟩ := h
  have hnew : OkOp ⟨kCopy, k, 1, []⟩ (i + 1) := .inl ⟨rfl, rfl, hk.1, hk.2, by simp, by simp only []; omega⟩
  rcases split_last out with rfl | ⟨m, o, rfl⟩
  · rw [addCopy_nil]
    exact ⟨by simp, by rw [costN_append, costN_nil, costN_one]; simp, fun o ho => by simp at ho; subst ho; exact hnew⟩
  · by_cases hc : o.kind = kCopy ∧ o.a + o.n = k
    · rw [addCopy_more m o k hc]
      refine ⟨by simp at h1 ⊢; omega, by rw [costN_append, costN_one] at h2 ⊢; simp only []; omega, fun x hx => ?_⟩
      rcases List.mem_append.1 hx with hx | hx
      · exact (h3 x (by simp [hx])).mono (by omega)
      · simp at hx; subst hx
        rcases h3 o (by simp) with ⟨g1, g2, g3, g4, g5, g6⟩ | ⟨g1, _⟩
        · exact .inl ⟨g1, g2, g3, g4, by simp only []; omega, by simp only []; omega⟩
        · rw [hc.1] at g1; exact absurd g1.symm kne
    · rw [addCopy_new m o k hc]
      refine ⟨by simp at h1 ⊢; omega, by rw [costN_append, costN_one]; simp only [List.length_nil]; omega, fun x hx => ?_⟩
      rcases List.mem_append.1 hx with hx | hx
      · exact (h3 x hx).mono (by omega)
      · simp at hx; subst hx; exact hnew
theorem OkOut.data {out : List POp} {i : Nat} {d : List UInt8} (h : OkOut out i) (hd : d.length = 1) : OkOut (addData out d) (i + 1) := by
  obtain ⟨h1, h2, h3⟩ := h
  have hnew : OkOp ⟨kData, 0, 0, d⟩ (i + 1) := .inr ⟨rfl, rfl, rfl, by simp only []; omega, by simp only []; omega⟩
  rcases split_last out with rfl | ⟨m, o, rfl⟩
  · rw [addData_nil]
    exact ⟨by simp, by rw [costN_append, costN_nil, costN_one]; simp only []; omega, fun o ho => by simp at ho; subst ho; exact hnew⟩
  · by_cases hc : o.kind = kData
    · rw [addData_more m o d hc]
      refine ⟨by simp at h1 ⊢; omega, by rw [costN_append, costN_one] at h2 ⊢; simp only [List.length_append]; omega, fun x hx => ?_⟩
      rcases List.mem_append.1 hx with hx | hx
      · exact (h3 x (by simp [hx])).mono (by omega)
      · simp at hx; subst hx
        rcases h3 o (by simp) with ⟨g1, _⟩ | ⟨g1, g2, g3, g4, g5⟩
        · rw [hc] at g1; exact absurd g1 kne
        · exact .inr ⟨g1, g2, g3, by simp only [List.length_append]; omega, by simp only [List.length_append]; omega⟩
    · rw [addData_new m o d hc]
      refine ⟨by simp at h1 ⊢; omega, by rw [costN_append, costN_one]; simp only []; omega, fun x hx => ?_⟩
      rcases List.mem_append.1 hx with hx | hx
      · exact (h3 x hx).mono (by omega)
      · simp at hx; subst hx; exact hnew
theorem OkOut.bounds {out : List POp} {i : Nat} (h : OkOut out i) (hi : i ≤ 4000) : out.length ≤ 1000000 ∧ ∀ o ∈ out, 0 ≤ o.a ∧ o.a ≤ 1000000 ∧ 0 ≤ o.n ∧ o.n ≤ 1000000 ∧ o.data.length ≤ 1000000 := by
  refine ⟨by have := h.1; omega, fun o ho => ?_⟩
  rcases h.2.2 o ho with ⟨g1, g2, g3, g4, g5, g6⟩ | ⟨g1, g2, g3, g4, g5⟩
  · rw [g2]; refine ⟨g3, by omega, by omega, by omega, by simp⟩
  · rw [g2, g3]; refine ⟨by omega, by omega, by omega, by omega, by omega⟩
theorem OkOut.chk {out : List POp} {i : Nat} (h : OkOut out i) (hi : i ≤ 4000) : ∀ o ∈ out, opC o = 0 := by
  intro o ho
  rcases h.2.2 o ho with ⟨g1, g2, g3, g4, g5, g6⟩ | ⟨g1, g2, g3, g4, g5⟩
  · exact opC_fine g1 g2 ⟨⟨g3, g4⟩, g5, by omega⟩
  · exact opD_fine (by rw [g1]; exact kne) g1 ⟨g2, g3⟩ ⟨g4, by omega⟩
theorem findB_bd : ∀ (l : List Blk) (x : Blk) (i : Nat), -1 ≤ findB l x i ∧ findB l x i < (i + l.length : Nat) ∧ (0 ≤ findB l x i → ∃ j, ∃ h : j < l.length, findB l x i = (i + j : Nat) ∧ l[j] = x)
  | [], x, i => by
    have e : findB ([] : List Blk) x i = -1 := by have := findB_end [] x i (by simp); simpa using this
    rw [e]; simp; omega
  | b :: l, x, i => by
    rw [findB_cons]
    split
    · rename_i h
      exact ⟨by omega, by simp; omega, fun _ => ⟨0, by simp, by simp, h⟩⟩
    · obtain ⟨h1, h2, h3⟩ := findB_bd l x (i + 1)
      refine ⟨h1, by simp; omega, fun h => ?_⟩
      obtain ⟨j, hj, e1, e2⟩ := h3 h
      exact ⟨j + 1, by simpa using hj, by rw [e1]; omega, by simpa using e2⟩
theorem findI_bd (l : List Blk) (x : Blk) : -1 ≤ findI l x ∧ findI l x < l.length := by
  have := findB_bd l x 0
  unfold findI; omega
theorem findI_get {l : List Blk} {x : Blk} (h : 0 ≤ findI l x) : ∃ j, ∃ hj : j < l.length, findI l x = (j : Nat) ∧ l[j] = x := by
  obtain ⟨j, hj, e1, e2⟩ := (findB_bd l x 0).2.2 h
  exact ⟨j, hj, by unfold findI; rw [e1]; simp, e2⟩

theorem sub_part (s : ByteArray) (i k e : Nat) (hk : e = i + k) : (s.extract i e).data.toList = (s.data.toList.drop i).take k := by
  subst hk
  simp [List.extract_eq_take_drop]

set_option maxRecDepth 100000 in
set_option maxHeartbeats 3200000 in
theorem make_any (E : Nat → Addr) (s0 : Option Addr) (n0 c0 : Nat) (l : List Blk) (size : Int) (s : ByteArray) (w : World) (hl : SliceIs w (.slice s0 n0 c0) 3 (bcells l)) (hB : Has E w 2) (hF : Has E w 8)
    (hck : (chk l size).1 = 0) (hs : s.size ≤ 4000) :
    Calls Tryz.prog 65 #[.slice s0 n0 c0, .int .i64 size, .string s] w fun e w' => ∃ v, e = .returned (.tuple #[v, .nilIface]) ∧
      w'.ownsRow w.heap.size 171 4 v (mkOps l size.toNat s.data.toList).length (ocells (mkOps l size.toNat s.data.toList)) ∧ Below w.heap.size w w' := by
  obtain ⟨z1, z2, z3, _⟩ := chk_ok hck
  obtain ⟨z, rfl⟩ : ∃ z : Nat, size = z := ⟨size.toNat, by omega⟩
  rw [Int.toNat_natCast]
  have hlen : l.length = n0 := by
    obtain ⟨s0', n0', c0', e1, e2, _, _, _⟩ := hl.get
    cases e1
    rw [bcells_len] at e2; omega
  have CK := check_any E s0 n0 c0 l z w hl hB hF
  rw [hck] at CK
  have HCK := Lib.hid CK
  have HLS := Lib.hid hl
  have hLl : s.data.toList.length = s.size := by simp
  have HM : Hid (mkOps l z s.data.toList = mkA l z s.size (s.data.toList.drop 0) []) := by
    show _ = _
    unfold mkOps
    rw [hLl]; rfl
  have hsI : ¬ (4000 : Int) < s.size := by omega
  have hz1 : 1 ≤ z := by omega
  have hz2 : z ≤ 64 := by omega
  have HLEN := Lib.hid hLl
  clear CK hck hl hB hF z1 z2 hLl
  go_enter Tryz.func65, Tryz.ntmps65
  go_wp2_with fail
  refine HCK.out.mono ?_
  rintro e w1 ⟨v1, rfl, fe, b1⟩
  rw [fe.zero]
  clear fe
  have M0 := MAt.new w1
  have bA := b1.alloc b1.size (.cells #[.slice none 0 0] 167)
  have hb : w.heap.size ≤ w1.heap.size := b1.size
  go_wp2_with fail
  generalize w1.alloc (.cells #[.slice none 0 0] 167) = w2 at M0 bA ⊢
  generalize w1.heap.size = b at M0 hb ⊢
  clear b1
  go_loopw [10, 11, 12] (fun i _ _ wr => ∃ (k f : Nat) (out : List POp), i = .int .i64 k ∧ k ≤ s.size ∧ s.size ≤ k + f ∧ OkOut out k ∧ mkOps l z s.data.toList = mkA l z f (s.data.toList.drop k) out ∧ MAt wr b out ∧ Below w.heap.size w wr) (fun i _ _ _ => s.size - (intOf i).toNat)
  case atStart => exact ⟨0, s.size, [], rfl, by omega, by omega, OkOut.nil 0, HM.out, M0, bA⟩
  case round =>
    clear M0 bA
    obtain ⟨k, f, out, rfl, hk, hf, hok, hm, M, bel⟩ := hrel
    have HMM := Lib.hid hm
    have HOK := Lib.hid hok
    obtain ⟨hb1, hb2⟩ := hok.bounds (by omega)
    have HB2 := Lib.hid hb2
    clear hm hok hb2
    by_cases hlt : k < s.size
    · have hltI : (k : Int) < s.size := by omega
      obtain ⟨g, rfl⟩ : ∃ g, f = g + 1 := ⟨f - 1, by omega⟩
      have hne : s.data.toList.drop k ≠ [] := by
        intro e
        have := congrArg List.length e
        simp at this; omega
      have HC := Lib.hid (fun h => HMM.out.trans (mkA_copy (l := l) (size := z) (f := g) (out := out) hne h))
      have HD := Lib.hid (fun h => HMM.out.trans (mkA_data (l := l) (size := z) (f := g) (out := out) hne h))
      clear hne
      rw [List.drop_drop] at HC HD
      obtain ⟨j, hj, hj1, hj2⟩ : ∃ j : Nat, ((z : Int) ≤ (s.size : Int) - k ∧ j = z ∨ (s.size : Int) - k < z ∧ j = s.size - k) ∧ 1 ≤ j ∧ k + j ≤ s.size := by
        by_cases h : (z : Int) ≤ (s.size : Int) - k
        · exact ⟨z, .inl ⟨h, rfl⟩, hz1, by omega⟩
        · exact ⟨s.size - k, .inr ⟨by omega, rfl⟩, by omega, by omega⟩
      have HX : Hid ((s.extract k (k + j)).data.toList = (s.data.toList.drop k).take z) := by
        show _ = _
        rw [sub_part s k j (k + j) rfl]
        rcases hj with ⟨_, h⟩ | ⟨h0, h⟩
        · rw [h]
        · rw [List.take_of_length_le (by simp; omega), List.take_of_length_le (by simp; omega)]
      have HX1 : Hid (s.extract k (k + 1) = bs ((s.data.toList.drop k).take 1)) := eq_bs (sub_part s k 1 (k + 1) rfl)
      have HDR : Hid (s.data.toList.drop (k + z) = s.data.toList.drop (k + j)) := by
        show _ = _
        rcases hj with ⟨_, h⟩ | ⟨h0, h⟩
        · rw [h]
        · rw [List.drop_eq_nil_of_le (by simp; omega), List.drop_eq_nil_of_le (by simp; omega)]
      have FI := find_any s0 n0 c0 l (s.extract k (k + j)) wr (by simp; omega) (HLS.out.below bel)
      rw [HX.out] at FI
      have hfb := findI_bd l (blk ((s.data.toList.drop k).take z))
      generalize findI l (blk ((s.data.toList.drop k).take z)) = fi at FI HC HD hfb
      have HFI := Lib.hid FI
      have x1 : (0 : Int) ≤ k := by omega
      have x2 : (k : Int) ≤ (k : Int) + j := by omega
      have x3 : (k : Int) + j ≤ s.size := by omega
      have x4 : ((k : Int) + j).toNat = k + j := by omega
      have x5 : (k : Int) ≤ (k : Int) + 1 := by omega
      have x6 : (k : Int) + 1 ≤ s.size := by omega
      have x7 : ((k : Int) + 1).toNat = k + 1 := by omega
      clear FI
      have hj' : ((z : Int) ≤ (s.size : Int) - k ∧ j = z) ∨ ((s.size : Int) - k < z ∧ Value.int .i64 ((s.size : Int) - k) = Value.int .i64 j) := by
        rcases hj with ⟨h1, h2⟩ | ⟨h1, h2⟩
        · exact .inl ⟨h1, h2⟩
        · exact .inr ⟨h1, by congr 1; omega⟩
      clear hj
      rcases hj' with ⟨h, rfl⟩ | ⟨h, e3⟩
      all_goals
        by_cases hfi : 0 ≤ fi
        · have HC' := Lib.hid (HC.out hfi)
          clear HC HD
          go_wp2_with fail
          refine HFI.out.mono ?_
          rintro e w3 ⟨rfl, b3⟩
          have M3 := M.below b3
          have bel3 := below_trans' bel b3
          clear b3 M bel HFI
          go_wp2_with fail
          refine (mcopy_any b out fi w3 M3 hb1 HB2.out (by omega)).mono ?_
          rintro e w4 ⟨rfl, M4, b4⟩
          have bel4 := bel3.trans (b4.mono hb)
          clear b4 M3 bel3
          have REL := Lib.hid (HC'.out)
          try rw [HDR.out] at REL
          have HOK' := Lib.hid ((HOK.out.copy (k := fi) (by omega)).mono (show k + 1 ≤ k + j by omega))
          have HK' := Lib.hid (show k + j ≤ s.size ∧ s.size ≤ k + j + g by omega)
          go_wp2_with fail
          go_roundw
          case rel => exact ⟨k + j, g, _, by go_num, HK'.out.1, HK'.out.2, HOK'.out, REL.out, M4, bel4⟩
          case measure => simp [intOf]; omega
        · have HD' := Lib.hid (HD.out hfi)
          clear HC HD
          go_wp2_with fail
          refine HFI.out.mono ?_
          rintro e w3 ⟨rfl, b3⟩
          have M3 := M.below b3
          have bel3 := below_trans' bel b3
          clear b3 M bel HFI
          go_wp2_with fail
          have MD := mdata_any b out ((s.data.toList.drop k).take 1) w3 M3 hb1 HB2.out (by simp; omega)
          rw [← HX1.out] at MD
          refine MD.mono ?_
          rintro e w4 ⟨rfl, M4, b4⟩
          have bel4 := bel3.trans (b4.mono hb)
          clear b4 M3 bel3 MD
          have HOK' := Lib.hid (HOK.out.data (d := (s.data.toList.drop k).take 1) (by simp; omega))
          have HK' := Lib.hid (show k + 1 ≤ s.size ∧ s.size ≤ k + 1 + g by omega)
          go_wp2_with fail
          go_roundw
          case rel => exact ⟨k + 1, g, _, by go_num, HK'.out.1, HK'.out.2, HOK'.out, HD'.out, M4, bel4⟩
          case measure => simp [intOf]; omega
    · have hltI : ¬ (k : Int) < s.size := by omega
      have hdn : s.data.toList.drop k = [] := List.drop_eq_nil_of_le (by simp; omega)
      have HME := HMM.out
      rw [hdn, mkA_end] at HME
      obtain ⟨v, hv⟩ := M
      have c0 := hv.c0
      have HOWN := Lib.hid (owns_mono hv.2 (show w.heap.size ≤ b + 1 by omega))
      have HE := Lib.hid HME
      clear HME hdn hv
      go_wp2_with fail
      go_ret2
      exact ⟨v, rfl, by rw [HE.out]; exact HOWN.out, bel⟩
end Go.Proofs.YtdpoalbbcmkceaaGreatDoor
namespace Go.Proofs.YtdpoalbbcmkceaaGreatDoor
open Go.RowKit
set_option linter.unusedVariables false

/-- one op's text -/
def oText1 (o : POp) : List UInt8 := if o.kind = kCopy then num 0 ++ num o.a.toNat ++ num o.n.toNat else num 1 ++ (num o.data.length ++ o.data)
def opsT (l : List POp) : List UInt8 := l.flatMap oText1
def oText (l : List POp) : List UInt8 := num l.length ++ opsT l
theorem oText1_copy {o : POp} (h : o.kind = kCopy) : oText1 o = num 0 ++ num o.a.toNat ++ num o.n.toNat := by unfold oText1; rw [if_pos h]
theorem oText1_data {o : POp} (h : o.kind ≠ kCopy) : oText1 o = num 1 ++ (num o.data.length ++ o.data) := by unfold oText1; rw [if_neg h]
theorem opsT_nil : opsT [] = [] := rfl
theorem opsT_append (a b : List POp) : opsT (a ++ b) = opsT a ++ opsT b := by simp [opsT]
theorem opsT_one (o : POp) : opsT [o] = oText1 o := by simp [opsT]
theorem opsT_cons (o : POp) (l : List POp) : opsT (o :: l) = oText1 o ++ opsT l := by simp [opsT]
theorem oText_is (l : List POp) : oText l = num l.length ++ opsT l := rfl
theorem oText1_len (o : POp) : (oText1 o).length ≤ 21 + o.data.length := by
  unfold oText1
  split
  · have := num_len 0; have := num_len o.a.toNat; have := num_len o.n.toNat; simp only [List.length_append]; omega
  · have := num_len 1; have := num_len o.data.length; simp only [List.length_append]; omega
theorem opsT_len (l : List POp) : (opsT l).length ≤ 21 * l.length + costN l := by
  induction l with
  | nil => simp [opsT_nil]
  | cons o l ih => rw [opsT_cons, costN_cons]; have := oText1_len o; simp only [List.length_append, List.length_cons]; omega
theorem opsT_take (l : List POp) (k : Nat) : (opsT (l.take k)).length ≤ (opsT l).length := by
  have := opsT_append (l.take k) (l.drop k)
  rw [List.take_append_drop] at this
  rw [this]; simp
/-- what Text tells -/
def dtC (l : List POp) : Nat × Int := if (chkOps l).1 ≠ 0 then chkOps l else if 20000 < (oText l).length then (2, -1) else (0, -1)
def dtL (l : List POp) : List UInt8 := if (dtC l).1 = 0 then oText l else []
theorem dt_bad {l : List POp} (h : (chkOps l).1 ≠ 0) : dtC l = chkOps l ∧ dtL l = [] := by
  have e : dtC l = chkOps l := by unfold dtC; rw [if_pos h]
  exact ⟨e, by unfold dtL; rw [e, if_neg h]⟩
theorem dt_long {l : List POp} (h : (chkOps l).1 = 0) (h2 : 20000 < (oText l).length) : dtC l = (2, -1) ∧ dtL l = [] := by
  have e : dtC l = (2, -1) := by unfold dtC; rw [if_neg (by simp [h]), if_pos h2]
  exact ⟨e, by unfold dtL; rw [e, if_neg (by decide)]⟩
theorem dt_fine {l : List POp} (h : (chkOps l).1 = 0) (h2 : ¬ 20000 < (oText l).length) : dtC l = (0, -1) ∧ dtL l = oText l := by
  have e : dtC l = (0, -1) := by unfold dtC; rw [if_neg (by simp [h]), if_neg h2]
  exact ⟨e, by unfold dtL; rw [e, if_pos rfl]⟩
theorem chkOps_pair (l : List POp) (h : (chkOps l).1 = 0) : chkOps l = (0, -1) := by
  unfold chkOps at *
  have : ∀ (l : List POp) (i : Nat), (chkO l i).1 = 0 → chkO l i = (0, -1) := by
    intro l
    induction l with
    | nil => intro i _; rw [chkO]
    | cons o l ih => intro i h; rw [chkO] at h ⊢; split; · rename_i e; rw [if_pos e] at h; exact ih _ h
                     · rename_i e; rw [if_neg e] at h; exact absurd h e
  exact this l 0 h
attribute [irreducible] oText1 opsT oText dtC dtL

set_option maxRecDepth 100000 in
set_option maxHeartbeats 3200000 in
theorem dtext_any (E : Nat → Addr) (s0 : Option Addr) (n0 c0 : Nat) (l : List POp) (w : World) (hl : SliceIs w (.slice s0 n0 c0) 4 (ocells l)) (h2 : Has E w 2) (h3 : Has E w 3) (h4 : Has E w 4)
    (hlen : l.length ≤ 1000000) (hlong : (opsT l).length ≤ 100000000) :
    Calls Tryz.prog 66 #[.slice s0 n0 c0] w fun e w' => ∃ v, e = .returned (.tuple #[.string (bs (dtL l)), v]) ∧ FErr E w' v (dtC l).1 (dtC l).2 ∧ Below w.heap.size w w' := by
  have CH := Lib.hid (dcheck_any E s0 n0 c0 l w hl h2 h3 h4)
  by_cases hok : (chkOps l).1 = 0
  · obtain ⟨rfl, hc0, hc1⟩ := ops_len hl
    have HLS := Lib.hid hl
    have HB := Lib.hid h2
    have HOK := Lib.hid hok
    have HOKE := Lib.hid ((chkOps_ok l).1 hok)
    have HOT := Lib.hid (oText_is l)
    have HEZ := Lib.hid (ev_zero E)
    have HFIN := Lib.hid doneL_zero
    clear hl h2 h3 h4 hok
    go_enter Tryz.func66, Tryz.ntmps66
    go_wp2_with fail
    refine CH.out.mono ?_
    rintro e w1 ⟨v, rfl, fe, b1⟩
    rw [HOK.out] at fe
    rw [fe.zero]
    clear fe CH
    go_wp2_with fail
    have W0 := WAt.new E w1
    have bA := b1.alloc b1.size (.cells #[.slice none 0 0, .nilIface] 128)
    have hb : w.heap.size ≤ w1.heap.size := b1.size
    generalize w1.alloc (.cells #[.slice none 0 0, .nilIface] 128) = w2 at W0 bA ⊢
    generalize w1.heap.size = b at W0 hb ⊢
    clear b1
    refine (wnum_ok E b _ _ _ (by simp) W0 (HB.out.below bA) (by omega) (by omega)).mono ?_
    rintro e w3 ⟨rfl, W3, K3⟩
    have b3 := K3.old bA hb W0.lt
    have x0 : ((l.length : Int)).toNat = l.length := by omega
    rw [List.nil_append, x0] at W3
    clear K3 bA W0 x0
    go_wp2_with fail
    go_loopw [23, 7] (fun i _ wr => ∃ k : Nat, i = .int .i64 k ∧ k ≤ l.length ∧ WAt E wr b (num l.length ++ opsT (l.take k)) 0 ∧ Below w.heap.size w wr) (fun i _ _ => l.length - (intOf i).toNat)
    case atStart => exact ⟨0, rfl, by omega, by simpa [opsT_nil] using W3, b3⟩
    case round =>
      clear W3 b3
      obtain ⟨k, rfl, hk, W, bel⟩ := hrel
      by_cases hlt : k < l.length
      · have hltI : (k : Int) < l.length := by omega
        obtain ⟨ad, rfl, d0, d1, d2, d3⟩ := ops_cells (HLS.out.below bel) k hlt
        have KK := Lib.hid (show k + 1 ≤ l.length by omega)
        have x1 : (0 : Int) ≤ k := by omega
        have x2 : (k : Int).toNat = k := by omega
        have hop := HOKE.out _ (List.getElem_mem hlt)
        have htk := Lib.hid (List.take_succ_eq_append_getElem hlt)
        have hlen1 := opsT_take l k
        have hn2 := num_len l.length
        generalize l[k] = o at d0 d1 d2 d3 hop htk
        have hgb : b < wr.heap.size := W.lt
        have W1 := W.below (below_alloc' wr (.cells #[.string (bs o.kind), .int .i64 o.a, .int .i64 o.n, .string (bs o.data)] 171))
        have bel1 := bel.alloc bel.size (.cells #[.string (bs o.kind), .int .i64 o.a, .int .i64 o.n, .string (bs o.data)] 171)
        have G1 : (wr.alloc (.cells #[.string (bs o.kind), .int .i64 o.a, .int .i64 o.n, .string (bs o.data)] 171)).heap[wr.heap.size]? = some (.cells #[.string (bs o.kind), .int .i64 o.a, .int .i64 o.n, .string (bs o.data)] 171 (0, 0)) := heap_alloc_new _ _
        by_cases hkd : o.kind = kCopy
        · obtain ⟨y0, y1, y2, y3, y4⟩ := opC_copy hop hkd
          clear y0
          have hTX := Lib.hid (oText1_copy hkd)
          have HTC : Hid (((bs o.kind).toList == [99, 111, 112, 121]) = true) := by show _ = _; exact tl_eq _ _ (by rw [hkd, kCopy_is])
          have htc := HTC.out
          have hm1 := num_len o.a.toNat
          have hm0 := num_len (Int.toNat 0)
          clear hop hkd
          go_wp2_with fail
          generalize wr.alloc (.cells #[.string (bs o.kind), .int .i64 o.a, .int .i64 o.n, .string (bs o.data)] 171) = v1 at W1 bel1 G1 ⊢
          generalize wr.heap.size = g at G1 hgb ⊢
          clear W bel d0 d1 d2 d3
          refine (wnum_ok E b _ _ _ (by simp only [List.length_append]; omega) W1 (HB.out.below bel1) (by omega) (by omega)).mono ?_
          rintro e v2 ⟨rfl, W2, K2⟩
          have bel2 := K2.old bel1 hb W1.lt
          have G2 := K2.obj G1 (by omega) (by decide)
          clear K2 bel1 W1 G1
          have f1 : v2.cell? ⟨g, 1, none⟩ = some (.int .i64 o.a) := by simp [World.cell?, G2]
          go_wp2_with fail
          refine (wnum_ok E b _ _ _ (by simp only [List.length_append]; omega) W2 (HB.out.below bel2) (by omega) (by omega)).mono ?_
          rintro e v3 ⟨rfl, W3, K3⟩
          have bel3 := K3.old bel2 hb W2.lt
          have G3 := K3.obj G2 (by omega) (by decide)
          clear K3 bel2 W2 G2
          have f2 : v3.cell? ⟨g, 2, none⟩ = some (.int .i64 o.n) := by simp [World.cell?, G3]
          go_wp2_with fail
          refine (wnum_ok E b _ _ _ (by simp only [List.length_append]; omega) W3 (HB.out.below bel3) (by omega) (by omega)).mono ?_
          rintro e v4 ⟨rfl, W4, K4⟩
          have bel4 := K4.old bel3 hb W3.lt
          clear K4 bel3 W3 G3
          go_wp2_with fail
          go_roundw
          case rel => exact ⟨k + 1, by go_num, KK.out, by rw [htk.out, opsT_append, opsT_one, hTX.out]; simpa [List.append_assoc] using W4, bel4⟩
          case measure => simp [intOf]; omega
        · have hkd2 : o.kind = kData := (opC_kind hop).resolve_left hkd
          obtain ⟨y01, y02, y1, y2⟩ := opC_data hop hkd2
          clear y01 y02
          have hTX := Lib.hid (oText1_data hkd)
          have HTC : Hid (((bs o.kind).toList == [99, 111, 112, 121]) = false) := by show _ = _; exact tl_ne _ _ (by rw [← kCopy_is]; exact hkd)
          have htc := HTC.out
          have hm0 := num_len (Int.toNat 1)
          clear hop hkd hkd2
          go_wp2_with fail
          generalize wr.alloc (.cells #[.string (bs o.kind), .int .i64 o.a, .int .i64 o.n, .string (bs o.data)] 171) = v1 at W1 bel1 G1 ⊢
          generalize wr.heap.size = g at G1 hgb ⊢
          clear W bel d0 d1 d2 d3
          refine (wnum_ok E b _ _ _ (by simp only [List.length_append]; omega) W1 (HB.out.below bel1) (by omega) (by omega)).mono ?_
          rintro e v2 ⟨rfl, W2, K2⟩
          have bel2 := K2.old bel1 hb W1.lt
          have G2 := K2.obj G1 (by omega) (by decide)
          clear K2 bel1 W1 G1
          have f1 : v2.cell? ⟨g, 3, none⟩ = some (.string (bs o.data)) := by simp [World.cell?, G2]
          go_wp2_with fail
          refine (wtext_ok E b _ _ _ (by simp only [List.length_append]; omega) W2 (HB.out.below bel2) (by rw [bs_size]; omega)).mono ?_
          rintro e v3 ⟨rfl, W3, K3⟩
          have bel3 := K3.old bel2 hb W2.lt
          rw [bs_size, bs_list] at W3
          clear K3 bel2 W2 G2
          go_wp2_with fail
          go_roundw
          case rel => exact ⟨k + 1, by go_num, KK.out, by rw [htk.out, opsT_append, opsT_one, hTX.out]; simpa [List.append_assoc] using W3, bel3⟩
          case measure => simp [intOf]; omega
      · have hltI : ¬ (k : Int) < l.length := by omega
        have htk : l.take k = l := List.take_of_length_le (by omega)
        rw [htk, ← HOT.out] at W
        have hol : (oText l).length ≤ 100000007 := by rw [HOT.out]; have := num_len l.length; simp only [List.length_append]; omega
        have D := wdone_any E b _ 0 wr (fun _ => by rw [HOT.out]; have := num_pos l.length; simp only [List.length_append]; omega) W
        rw [HFIN.out, HEZ.out] at D
        have HD := Lib.hid D
        clear D htk W
        by_cases h20 : 20000 < (oText l).length
        · have h20I : (20000 : Int) < (oText l).length := by omega
          have Z := Lib.hid (dt_long HOK.out h20)
          go_wp2_with fail
          refine HD.out.mono ?_
          rintro e w9 ⟨rfl, b9⟩
          have bel9 := below_trans' bel (b9.below _)
          have c2 : w9.cell? ⟨1, 0, none⟩ = some (errv (E 2)) := HB.out.below bel9
          unfold errv at c2
          clear bel b9
          go_wp2_with fail
          go_ret2
          exact ⟨.iface 237 (.pointer (some (E 2))), ret2 (by rw [Z.out.2, bs_nil]; rfl) rfl, by rw [Z.out.1]; have h := FErr.ev E w9 2; rw [ev_pos E (by decide)] at h; exact h, bel9⟩
        · have h20I : ¬ (20000 : Int) < (oText l).length := by omega
          have Z := Lib.hid (dt_fine HOK.out h20)
          go_wp2_with fail
          refine HD.out.mono ?_
          rintro e w9 ⟨rfl, b9⟩
          have bel9 := below_trans' bel (b9.below _)
          clear bel b9
          go_wp2_with fail
          go_ret2
          exact ⟨.nilIface, ret2 (by rw [Z.out.2]; rfl) rfl, by rw [Z.out.1]; exact FErr.nil E _, bel9⟩
  · have Z := Lib.hid (dt_bad hok)
    have HOK := Lib.hid hok
    clear hl h2 h3 h4 hok hlen hlong
    rw [Z.out.1, Z.out.2]
    go_enter Tryz.func66, Tryz.ntmps66
    go_wp2_with fail
    refine CH.out.mono ?_
    rintro e w1 ⟨v, rfl, fe, b1⟩
    obtain ⟨t, p, hv⟩ := fe.some HOK.out
    have FE := Lib.hid fe
    clear fe
    rw [hv] at FE ⊢
    go_wp2_with fail
    go_ret2
    exact ⟨.iface t (.pointer (some p)), ret2 (by rw [bs_nil]; rfl) rfl, FE.out, b1⟩
end Go.Proofs.YtdpoalbbcmkceaaGreatDoor
/- Contract of delta.read. -/
namespace Go.Proofs.YtdpoalbbcmkceaaGreatDoor
open Go.RowKit
set_option linter.unusedVariables false

def zop : POp := ⟨[], 0, 0, []⟩
/-- an op off a reader that has no error yet -/
def rdOp (l : List UInt8) : POp × List UInt8 × Nat :=
  if rnC l 0 ≠ 0 then (zop, rnR l 0, rnC l 0)
  else if rnN l 0 = 0 then (⟨kCopy, rnN (rnR l 0) 0, rnN (rnR (rnR l 0) 0) (rnC (rnR l 0) 0), []⟩, rnR (rnR (rnR l 0) 0) (rnC (rnR l 0) 0), rnC (rnR (rnR l 0) 0) (rnC (rnR l 0) 0))
  else if rnN l 0 = 1 then (⟨kData, 0, 0, rtT (rnR l 0) 0⟩, rtR (rnR l 0) 0, rtC (rnR l 0) 0)
  else (zop, rnR l 0, 1)
theorem rdOp_err {l : List UInt8} (h : rnC l 0 ≠ 0) : rdOp l = (zop, rnR l 0, rnC l 0) := by unfold rdOp; rw [if_pos h]
theorem rdOp_copy {l l1 l2 : List UInt8} {c2 : Nat} (h : rnC l 0 = 0) (hn : rnN l 0 = 0) (h1 : rnR l 0 = l1) (h2 : rnR l1 0 = l2) (h3 : rnC l1 0 = c2) : rdOp l = (⟨kCopy, rnN l1 0, rnN l2 c2, []⟩, rnR l2 c2, rnC l2 c2) := by
  subst h1 h2 h3; unfold rdOp; rw [if_neg (by simp [h]), if_pos hn]
theorem rdOp_data {l l1 : List UInt8} (h : rnC l 0 = 0) (hn : rnN l 0 = 1) (h1 : rnR l 0 = l1) : rdOp l = (⟨kData, 0, 0, rtT l1 0⟩, rtR l1 0, rtC l1 0) := by
  subst h1; unfold rdOp; rw [if_neg (by simp [h]), if_neg (by omega), if_pos hn]
theorem rdOp_kind {l : List UInt8} (h : rnC l 0 = 0) (hn : rnN l 0 ≠ 0) (hn1 : rnN l 0 ≠ 1) : rdOp l = (zop, rnR l 0, 1) := by
  unfold rdOp; rw [if_neg (by simp [h]), if_neg hn, if_neg hn1]
theorem rdOp_len (l : List UInt8) (h : (rdOp l).2.2 = 0) : (rdOp l).2.1.length < l.length := by
  by_cases h0 : rnC l 0 = 0
  · have hs := gR_short l (rnC_zero h0).2
    rw [← (rn_zero l).2.1] at hs
    by_cases h1 : rnN l 0 = 0
    · rw [rdOp_copy h0 h1 rfl rfl rfl]
      have a := rnR_len (rnR l 0) 0
      have b := rnR_len (rnR (rnR l 0) 0) (rnC (rnR l 0) 0)
      show (rnR (rnR (rnR l 0) 0) (rnC (rnR l 0) 0)).length < _
      omega
    · by_cases h2 : rnN l 0 = 1
      · rw [rdOp_data h0 h2 rfl]
        have a := rtR_len (rnR l 0) 0
        show (rtR (rnR l 0) 0).length < _
        omega
      · rw [rdOp_kind h0 h1 h2] at h; simp at h
  · rw [rdOp_err h0] at h; exact absurd h h0
theorem rdOp_le (l : List UInt8) : (rdOp l).2.1.length ≤ l.length := by
  have a0 := rnR_len l 0
  by_cases h0 : rnC l 0 = 0
  · by_cases h1 : rnN l 0 = 0
    · rw [rdOp_copy h0 h1 rfl rfl rfl]
      have a := rnR_len (rnR l 0) 0
      have b := rnR_len (rnR (rnR l 0) 0) (rnC (rnR l 0) 0)
      show (rnR (rnR (rnR l 0) 0) (rnC (rnR l 0) 0)).length ≤ _
      omega
    · by_cases h2 : rnN l 0 = 1
      · rw [rdOp_data h0 h2 rfl]
        have a := rtR_len (rnR l 0) 0
        show (rtR (rnR l 0) 0).length ≤ _
        omega
      · rw [rdOp_kind h0 h1 h2]; exact a0
  · rw [rdOp_err h0]; exact a0
attribute [irreducible] rdOp

theorem has_grown {E : Nat → Addr} {w w' : World} {c b d : Nat} {l : List UInt8} (h : Has E w c) (R : RAt E w b l d) (g : w.grownBy w' (some b)) : Has E w' c := by
  have hne : gOf c ≠ b := by
    intro e
    have := R.cs.1
    unfold Has at h
    rw [e, this] at h
    unfold errv at h
    simp at h
  unfold Has at *
  exact g.cell h (by intro e; exact hne (Option.some.inj e))
theorem copyV (x y : Int) : POp.val ⟨kCopy, x, y, []⟩ = .agg #[.string ⟨#[99, 111, 112, 121]⟩, .int .i64 x, .int .i64 y, .string ⟨#[]⟩] := by simp only [POp.val, bs_kCopy, bs_nil]
theorem dataV (d : List UInt8) : POp.val ⟨kData, 0, 0, d⟩ = .agg #[.string ⟨#[100, 97, 116, 97]⟩, .int .i64 0, .int .i64 0, .string (bs d)] := by simp only [POp.val, bs_kData]
theorem grown_set {w v : World} {b g k : Nat} {y : Value} (h : w.grownBy v (some b)) (hg : w.heap.size ≤ g) : w.grownBy (v.setCell ⟨g, k, none⟩ y) (some b) :=
  ⟨h.os, h.tape, h.output, by rw [World.size_setCell]; exact h.size, fun j hj hne => by rw [Below.heap_setCell _ _ _ _ (by show j ≠ g; omega)]; exact h.block j hj hne⟩
theorem set4 {E : Nat → Addr} {w v : World} {b g : Nat} {x0 x1 x2 x3 : Value} {t : TypeId} {m : List UInt8} {c : Nat} (h : v.heap[g]? = some (.cells #[x0, x1, x2, x3] t (0, 0))) (hb : g ≠ b) (R : RAt E v b m c) (hg : w.grownBy v (some b)) (hgw : w.heap.size ≤ g) (y0 y1 y2 y3 : Value) :
    ∃ v', v' = (((v.setCell ⟨g, 0, none⟩ y0).setCell ⟨g, 1, none⟩ y1).setCell ⟨g, 2, none⟩ y2).setCell ⟨g, 3, none⟩ y3 ∧ v'.cell? ⟨g, 0, none⟩ = some y0 ∧ v'.cell? ⟨g, 1, none⟩ = some y1 ∧ v'.cell? ⟨g, 2, none⟩ = some y2 ∧ v'.cell? ⟨g, 3, none⟩ = some y3 ∧ RAt E v' b m c ∧ w.grownBy v' (some b) := by
  have h1 := set_at (k := 3) (u := y3) (set_at (k := 2) (u := y2) (set_at (k := 1) (u := y1) (set_at (k := 0) (u := y0) h)))
  refine ⟨_, rfl, ?_, ?_, ?_, ?_, ?_, grown_set (grown_set (grown_set (grown_set hg hgw) hgw) hgw) hgw⟩
  · simp [World.cell?, h1]
  · simp [World.cell?, h1]
  · simp [World.cell?, h1]
  · simp [World.cell?, h1]
  · unfold RAt at R ⊢
    rw [Below.heap_setCell _ _ _ _ (by exact fun e => hb e.symm), Below.heap_setCell _ _ _ _ (by exact fun e => hb e.symm), Below.heap_setCell _ _ _ _ (by exact fun e => hb e.symm), Below.heap_setCell _ _ _ _ (by exact fun e => hb e.symm)]
    exact R
theorem facts4 {v : World} {g : Nat} {x0 x1 x2 x3 : Value} {t : TypeId} (h : v.heap[g]? = some (.cells #[x0, x1, x2, x3] t (0, 0))) :
    (v.cell? ⟨g, 0, none⟩ = some x0 ∧ v.cell? ⟨g, 1, none⟩ = some x1 ∧ v.cell? ⟨g, 2, none⟩ = some x2 ∧ v.cell? ⟨g, 3, none⟩ = some x3) ∧ ∀ k, v.frozen? ⟨g, k, none⟩ = false := by
  refine ⟨⟨?_, ?_, ?_, ?_⟩, fun k => ?_⟩ <;> simp [World.cell?, World.frozen?, h]

set_option maxRecDepth 100000 in
set_option maxHeartbeats 3200000 in
theorem oprd_any (E : Nat → Addr) (b : Nat) (l : List UInt8) (w : World) (hl : l.length ≤ 1000000000) (h : RAt E w b l 0) (hT : Has E w 1) (hB : Has E w 2) :
    Calls Tryz.prog 122 #[.pointer (some ⟨b, 0, none⟩)] w fun e w' => e = .returned (rdOp l).1.val ∧ RAt E w' b (rdOp l).2.1 (rdOp l).2.2 ∧ w.grownBy w' (some b) := by
  have hbg : b < w.heap.size := h.lt
  have hne : w.heap.size ≠ b := by omega
  have b0 := below_alloc' w (.cells #[.string ⟨#[]⟩, .int .i64 0, .int .i64 0, .string ⟨#[]⟩] 171)
  have R0 := h.below b0
  have HB := Lib.hid hB
  have HT := Lib.hid hT
  have G0 : (w.alloc (.cells #[.string ⟨#[]⟩, .int .i64 0, .int .i64 0, .string ⟨#[]⟩] 171)).heap[w.heap.size]? = some (.cells #[.string ⟨#[]⟩, .int .i64 0, .int .i64 0, .string ⟨#[]⟩] 171 (0, 0)) := heap_alloc_new _ _
  have hz0 : w.heap.size < (w.alloc (.cells #[.string ⟨#[]⟩, .int .i64 0, .int .i64 0, .string ⟨#[]⟩] 171)).heap.size := by simp
  have K0 := grownBy_below (r := some b) b0
  have hBx := HB.out.below b0
  have hTx := HT.out.below b0
  obtain ⟨g, hgd⟩ : ∃ g, g = w.heap.size := ⟨_, rfl⟩
  have hgw : w.heap.size ≤ g := by omega
  have HGW := Lib.hid hgw
  obtain ⟨l1, e1⟩ : ∃ x, rnR l 0 = x := ⟨_, rfl⟩
  obtain ⟨c1, e2⟩ : ∃ x, rnC l 0 = x := ⟨_, rfl⟩
  obtain ⟨k, e3⟩ : ∃ x, rnN l 0 = x := ⟨_, rfl⟩
  have N1 := Lib.hid (fun (w : World) h => rnum_any E b l 0 w hl h)
  rw [e1, e2, e3] at N1
  have HE1 := Lib.hid e1
  have HE2 := Lib.hid e2
  have HE3 := Lib.hid e3
  have HZ := Lib.hid (show POp.val zop = .agg #[.string ⟨#[]⟩, .int .i64 0, .int .i64 0, .string ⟨#[]⟩] by unfold zop POp.val; rw [bs_nil])
  have hl1 := rnR_len l 0
  rw [e1] at hl1
  have hk := rnN_le l 0
  rw [e3] at hk
  have h0 := h
  clear e1 e2 e3 h hB hT
  have HNE := Lib.hid hne
  go_enter Tryz.func122, Tryz.ntmps122
  go_wp2_with fail
  rw [← hgd] at G0 hz0 ⊢
  have hne2 : g ≠ b := by omega
  clear hgd
  generalize w.alloc (.cells #[.string ⟨#[]⟩, .int .i64 0, .int .i64 0, .string ⟨#[]⟩] 171) = w0 at *
  refine (N1.out _ R0 hTx hBx).mono ?_
  rintro e w1 ⟨rfl, R1, g1⟩
  have K1 := grownBy_trans K0 g1
  have G1 := (g1.block g hz0 (fun h => hne2 (Option.some.inj h))).trans G0
  have HTw := Lib.hid (has_grown HT.out h0 K1)
  have HBw := Lib.hid (has_grown HB.out h0 K1)
  clear h0 R0 b0 G0 hz0 K0 g1 hBx hTx N1
  obtain ⟨⟨q0, q1⟩, fzb⟩ := (⟨R1.cs, R1.fz⟩ : (_ ∧ _) ∧ _)
  obtain ⟨⟨d0, d1, d2, d3⟩, fz⟩ := facts4 G1
  have f0 := fz 0
  have f1 := fz 1
  have f2 := fz 2
  have f3 := fz 3
  by_cases hc : c1 = 0
  · subst hc
    rw [ev_zero] at q1
    by_cases hk0 : k = 0
    · subst hk0
      obtain ⟨l2, a1⟩ : ∃ x, rnR l1 0 = x := ⟨_, rfl⟩
      obtain ⟨c2, a2⟩ : ∃ x, rnC l1 0 = x := ⟨_, rfl⟩
      have hrd := rdOp_copy HE2.out HE3.out HE1.out a1 a2
      have P1 := Lib.hid (fun (w : World) h => rnum_any E b l1 0 w (by omega) h)
      have hl2 := rnR_len l1 0
      rw [a1] at hl2
      have P2 := Lib.hid (fun (w : World) h => rnum_any E b l2 c2 w (by omega) h)
      rw [a1, a2] at P1
      generalize rnN l1 0 = x at *
      generalize rnN l2 c2 = y at *
      generalize rnR l2 c2 = l3 at *
      generalize rnC l2 c2 = c3 at *
      have HRD := Lib.hid hrd
      clear a1 a2 hrd fz
      go_wp2_with fail
      refine (P1.out _ R1 HTw.out HBw.out).mono ?_
      rintro e w2 ⟨rfl, R2, g2⟩
      have K2 := grownBy_trans K1 g2
      have G2 := (g2.block g (lt_of_block G1) (fun h => hne2 (Option.some.inj h))).trans G1
      have HTw2 := Lib.hid (has_grown HTw.out R1 g2)
      have HBw2 := Lib.hid (has_grown HBw.out R1 g2)
      clear R1 G1 K1 g2 d0 d1 d2 d3 f0 f1 f2 f3 q0 q1 fzb
      go_wp2_with fail
      refine (P2.out _ R2 HTw2.out HBw2.out).mono ?_
      rintro e w3 ⟨rfl, R3, g3⟩
      have K3 := grownBy_trans K2 g3
      have G3 := (g3.block g (lt_of_block G2) (fun h => hne2 (Option.some.inj h))).trans G2
      clear R2 G2 K2 g3
      obtain ⟨⟨d0, d1, d2, d3⟩, fz⟩ := facts4 G3
      have f0 := fz 0
      have f1 := fz 1
      have f2 := fz 2
      have f3 := fz 3
      obtain ⟨v', hv', r0, r1, r2, r3, R4, K4⟩ := set4 G3 hne2 R3 K3 HGW.out (.string ⟨#[99, 111, 112, 121]⟩) (.int .i64 x) (.int .i64 y) (.string ⟨#[]⟩)
      clear fz G3 R3 K3
      go_wp2_with fail
      rw [← hv']
      clear hv' d0 d1 d2 d3 f0 f1 f2 f3
      (try simp only [Exit.inBlock, Exit.then])
      refine bodyPost_ret (by simp [results, Tryz.results122, go_sem, r0, r1, r2, r3]; try rfl) rfl ?_
      exact ⟨by rw [HRD.out, copyV], by rw [HRD.out]; exact R4, K4⟩
    · have hk0b : ((k : Int) == 0) = false := by rw [beq_eq_false_iff_ne]; omega
      by_cases hk1 : k = 1
      · subst hk1
        have hrd := rdOp_data HE2.out HE3.out HE1.out
        have P1 := Lib.hid (fun (w : World) h => rtext_any E b l1 0 w (by omega) h)
        generalize rtT l1 0 = x at *
        generalize rtR l1 0 = l3 at *
        generalize rtC l1 0 = c3 at *
        have HRD := Lib.hid hrd
        clear hrd fz hk0 hk0b
        go_wp2_with fail
        refine (P1.out _ R1 HTw.out HBw.out).mono ?_
        rintro e w3 ⟨rfl, R3, g3⟩
        have K3 := grownBy_trans K1 g3
        have G3 := (g3.block g (lt_of_block G1) (fun h => hne2 (Option.some.inj h))).trans G1
        clear R1 G1 K1 g3 d0 d1 d2 d3 f0 f1 f2 f3 q0 q1 fzb
        obtain ⟨⟨d0, d1, d2, d3⟩, fz⟩ := facts4 G3
        have f0 := fz 0
        have f1 := fz 1
        have f2 := fz 2
        have f3 := fz 3
        obtain ⟨v', hv', r0, r1, r2, r3, R4, K4⟩ := set4 G3 hne2 R3 K3 HGW.out (.string ⟨#[100, 97, 116, 97]⟩) (.int .i64 0) (.int .i64 0) (.string (bs x))
        clear fz G3 R3 K3
        go_wp2_with fail
        rw [← hv']
        clear hv' d0 d1 d2 d3 f0 f1 f2 f3
        (try simp only [Exit.inBlock, Exit.then])
        refine bodyPost_ret (by simp [results, Tryz.results122, go_sem, r0, r1, r2, r3]; try rfl) rfl ?_
        exact ⟨by rw [HRD.out, dataV], by rw [HRD.out]; exact R4, K4⟩
      · have hk1b : ((k : Int) == 1) = false := by rw [beq_eq_false_iff_ne]; omega
        have HRD := Lib.hid (rdOp_kind HE2.out (by rw [HE3.out]; exact hk0) (by rw [HE3.out]; exact hk1))
        rw [HE1.out] at HRD
        have t1 : w1.cell? ⟨0, 0, none⟩ = some (errv (E 1)) := HTw.out
        unfold errv at t1
        have fb1 := fzb 1
        have R2 := R1.set1 1 _ (ev_is E (c := 1) (by decide)).symm
        unfold errv at R2
        have K2 := grownBy_trans K1 (grownBy_set w1 b 1 (.iface 237 (.pointer (some (E 1)))))
        have G2 : (w1.setCell ⟨b, 1, none⟩ (.iface 237 (.pointer (some (E 1))))).heap[g]? = some (.cells #[.string ⟨#[]⟩, .int .i64 0, .int .i64 0, .string ⟨#[]⟩] 171 (0, 0)) := (Below.heap_setCell _ _ _ _ (by exact hne2)).trans G1
        obtain ⟨w2, hw2⟩ : ∃ w2, w2 = w1.setCell ⟨b, 1, none⟩ (.iface 237 (.pointer (some (E 1)))) := ⟨_, rfl⟩
        rw [← hw2] at R2 K2 G2
        obtain ⟨⟨d0', d1', d2', d3'⟩, fz'⟩ := facts4 G2
        obtain ⟨v', hv', r0, r1, r2, r3, R4, K4⟩ := set4 G2 hne2 R2 K2 HGW.out (.string ⟨#[]⟩) (.int .i64 0) (.int .i64 0) (.string ⟨#[]⟩)
        have f0' := fz' 0
        have f1' := fz' 1
        have f2' := fz' 2
        have f3' := fz' 3
        rw [hw2] at d0' d1' d2' d3' f0' f1' f2' f3'
        rw [hw2] at hv'
        clear fz fz' hk0 hk1 R1 K1 G1 R2 K2 G2 hw2
        go_wp2_with fail
        rw [← hv']
        (try simp only [Exit.inBlock, Exit.then])
        refine bodyPost_ret (by simp [results, Tryz.results122, go_sem, r0, r1, r2, r3]; try rfl) rfl ?_
        exact ⟨by rw [HRD.out, HZ.out], by rw [HRD.out]; exact R4, K4⟩
  · have HRD := Lib.hid (rdOp_err (l := l) (by rw [HE2.out]; exact hc))
    rw [HE1.out, HE2.out] at HRD
    rw [ev_pos E hc] at q1
    obtain ⟨v', hv', r0, r1, r2, r3, R4, K4⟩ := set4 G1 hne2 R1 K1 HGW.out (.string ⟨#[]⟩) (.int .i64 0) (.int .i64 0) (.string ⟨#[]⟩)
    clear fz hc R1 K1 G1
    go_wp2_with fail
    rw [← hv']
    (try simp only [Exit.inBlock, Exit.then])
    refine bodyPost_ret (by simp [results, Tryz.results122, go_sem, r0, r1, r2, r3]; try rfl) rfl ?_
    exact ⟨by rw [HRD.out, HZ.out], by rw [HRD.out]; exact R4, K4⟩
end Go.Proofs.YtdpoalbbcmkceaaGreatDoor
/- Contract of delta.Read. -/
namespace Go.Proofs.YtdpoalbbcmkceaaGreatDoor
open Go.RowKit
set_option linter.unusedVariables false

def roL : Nat → List UInt8 → Nat → List POp → List POp × List UInt8 × Nat
  | 0, l, c, out => (out, l, c)
  | f + 1, l, c, out => if c = 0 then roL f (rdOp l).2.1 (rdOp l).2.2 (out ++ [(rdOp l).1]) else (out, l, c)
theorem roL_end (l : List UInt8) (c : Nat) (out : List POp) : roL 0 l c out = (out, l, c) := rfl
theorem roL_err (f : Nat) (l : List UInt8) {c : Nat} (h : c ≠ 0) (out : List POp) : roL f l c out = (out, l, c) := by
  cases f with
  | zero => rfl
  | succ f => simp [roL, h]
theorem roL_step {f : Nat} (hf : 0 < f) (l : List UInt8) (out : List POp) : roL f l 0 out = roL (f - 1) (rdOp l).2.1 (rdOp l).2.2 (out ++ [(rdOp l).1]) := by
  obtain ⟨g, rfl⟩ : ∃ g, f = g + 1 := ⟨f - 1, by omega⟩
  simp [roL]
def ro0 (L : List UInt8) : List POp × List UInt8 × Nat := roL (rnN L 0) (rnR L 0) (rnC L 0) []
/-- ops that are read, an error's number -/
def readO (L : List UInt8) : List POp × Nat :=
  if 20000 < L.length then ([], 2)
  else if rEnd (ro0 L).2.1 (ro0 L).2.2 ≠ 0 then ([], rEnd (ro0 L).2.1 (ro0 L).2.2)
  else if (chkOps (ro0 L).1).1 ≠ 0 then ([], (chkOps (ro0 L).1).1) else ((ro0 L).1, 0)
theorem readO_long {L : List UInt8} (h : 20000 < L.length) : readO L = ([], 2) := by simp [readO, h]
theorem readO_end {L l : List UInt8} {c : Nat} {out : List POp} (h0 : ¬ 20000 < L.length) (h : ro0 L = (out, l, c)) (h1 : rEnd l c ≠ 0) : readO L = ([], rEnd l c) := by unfold readO; rw [if_neg h0, h]; simp [h1]
theorem readO_bad {L l : List UInt8} {c : Nat} {out : List POp} (h0 : ¬ 20000 < L.length) (h : ro0 L = (out, l, c)) (h1 : rEnd l c = 0) (h2 : (chkOps out).1 ≠ 0) : readO L = ([], (chkOps out).1) := by unfold readO; rw [if_neg h0, h]; simp [h1, h2]
theorem readO_ok {L l : List UInt8} {c : Nat} {out : List POp} (h0 : ¬ 20000 < L.length) (h : ro0 L = (out, l, c)) (h1 : rEnd l c = 0) (h2 : (chkOps out).1 = 0) : readO L = (out, 0) := by unfold readO; rw [if_neg h0, h]; simp [h1, h2]
theorem ro0_is {L l1 : List UInt8} {c1 m : Nat} (h0 : rnN L 0 = m) (h1 : rnR L 0 = l1) (h2 : rnC L 0 = c1) : ro0 L = roL m l1 c1 [] := by subst h0 h1 h2; rfl
attribute [irreducible] roL ro0 readO

set_option maxRecDepth 100000 in
set_option maxHeartbeats 3200000 in
theorem dread_any (E : Nat → Addr) (s : ByteArray) (w : World) (hs : s.size ≤ 1000000000) (hT : Has E w 1) (hB : Has E w 2) (h3 : Has E w 3) (h4 : Has E w 4) :
    Calls Tryz.prog 100 #[.string s] w fun e w' => ∃ v, e = .returned (.tuple #[v, ev E (readO s.data.toList).2]) ∧
      w'.ownsRow w.heap.size 171 4 v (readO s.data.toList).1.length (ocells (readO s.data.toList).1) ∧ Below w.heap.size w w' := by
  obtain ⟨i0, hi, hz0, hz1, hz2⟩ := info_parts info_op
  obtain ⟨L, hL⟩ : ∃ L, L = s.data.toList := ⟨_, rfl⟩
  have hLl : L.length = s.size := by rw [hL]; simp
  rw [← hL]
  have hsb : s = bs L := by rw [hL, bs_of]
  have hLb : L.length ≤ 1000000000 := by omega
  clear hLl hL hs
  subst hsb
  have HB := Lib.hid hB
  have HT := Lib.hid hT
  have H3 := Lib.hid h3
  have H4 := Lib.hid h4
  by_cases hlong : 20000 < L.length
  · have hlI : (20000 : Int) < L.length := by omega
    have HR := Lib.hid (readO_long hlong)
    have c2 : w.cell? ⟨1, 0, none⟩ = some (errv (E 2)) := hB
    unfold errv at c2
    clear hT hB h3 h4
    go_enter Tryz.func100, Tryz.ntmps100
    go_wp2_with fail
    go_quiet (fail)
    go_wp2_with fail
    go_ret2
    refine ⟨.slice none 0 0, by rw [HR.out, ev_pos E (by decide)]; rfl, ?_, Drew.below (Drew.drewN _ _) _⟩
    rw [HR.out]
    simp only []
    rw [ocells_nil]
    exact World.ownsRow_nil _ _ _ _
  have hlI : ¬ (20000 : Int) < L.length := by omega
  have HLONG := Lib.hid hlong
  obtain ⟨l1, e1⟩ : ∃ x, rnR L 0 = x := ⟨_, rfl⟩
  obtain ⟨c1, e2⟩ : ∃ x, rnC L 0 = x := ⟨_, rfl⟩
  obtain ⟨many, e0⟩ : ∃ x, rnN L 0 = x := ⟨_, rfl⟩
  have hr0 := ro0_is e0 e1 e2
  have hl1 := rnR_len L 0
  rw [e1] at hl1
  have N1 := Lib.hid (fun b (w : World) h => rnum_any E b L 0 w hLb h)
  rw [e0, e1, e2] at N1
  have HR0 := Lib.hid hr0
  have hml := rnN_le L 0
  rw [e0] at hml
  have HEZ := Lib.hid (ev_zero E)
  clear e0 e1 e2 hr0 hB hT h3 h4 hlong
  have R0 : RAt E (w.alloc (.cells #[.string (bs L), .nilIface] 114)) w.heap.size L 0 := by unfold RAt; rw [ev_zero]; exact heap_alloc_new _ _
  have b0 := below_alloc' w (.cells #[.string (bs L), .nilIface] 114)
  go_enter Tryz.func100, Tryz.ntmps100
  go_wp2_with fail
  refine (N1.out _ _ R0 (HT.out.below b0) (HB.out.below b0)).mono ?_
  rintro e w1 ⟨rfl, R1, g1⟩
  have b1 := b0.grown g1 b0.size (fun k hk => by cases hk; exact Nat.le_refl _)
  clear R0 b0 g1
  go_wp2_with fail
  go_loopw [6, 7] (fun o i wr => ∃ (k : Nat) (out : List POp) (l : List UInt8) (c : Nat), i = .int .i64 k ∧ k ≤ many ∧ out.length = k ∧ out.length ≤ L.length + 1 ∧ (c = 0 → out.length + l.length ≤ L.length) ∧ l.length ≤ L.length ∧
      ro0 L = roL (many - k) l c out ∧ RAt E wr w.heap.size l c ∧ wr.ownsRow (w.heap.size + 1) 171 4 o k (ocells out) ∧ Below w.heap.size w wr) (fun _ i _ => many - (intOf i).toNat)
  case atStart => exact ⟨0, [], l1, c1, rfl, by omega, rfl, by simp, fun _ => by simp; omega, by omega, HR0.out, R1, by rw [ocells_nil]; exact World.ownsRow_nil _ _ _ _, b1⟩
  case round =>
    clear R1 b1
    obtain ⟨k, out, l, c, rfl, hk, hok, ho1, ho2, hll, hrd, R, hown, bel⟩ := hrel
    have HRD := Lib.hid hrd
    have HOK := Lib.hid hok
    have HO2 := Lib.hid ho2
    obtain ⟨r0, r1⟩ := R.cs
    clear hrd hok ho2
    by_cases hgo : k < many ∧ c = 0
    · obtain ⟨hlt, rfl⟩ := hgo
      have hltI : (k : Int) < many := by omega
      rw [ev_zero] at r1
      have hstep := HRD.out.trans (roL_step (by omega) l out)
      have hshort := rdOp_len l
      have hle := rdOp_le l
      have P1 := Lib.hid (fun b (w : World) h => oprd_any E b l w (by omega) h)
      generalize rdOp l = rd at *
      obtain ⟨o1, m, d⟩ := rd
      simp only [] at hstep hshort hle P1
      have HSTEP := Lib.hid hstep
      have HSH := Lib.hid hshort
      have KK := Lib.hid (show k + 1 ≤ many ∧ many - (k + 1) = many - k - 1 by omega)
      have HO3 := Lib.hid (HO2.out rfl)
      clear hstep hshort
      have hsz0 := R.lt
      unfold POp.val at P1
      go_wp2_with fail
      refine (P1.out _ _ R (HT.out.below bel) (HB.out.below bel)).mono ?_
      rintro e v3 ⟨rfl, R3, g3⟩
      have bel3 := bel.grown g3 bel.size (fun k hk => by cases hk; exact Nat.le_refl _)
      have hown3 := owns_other' hown (Nat.lt_succ_self _) g3
      clear R bel g3 hown r0 r1
      have hsz3 := R3.lt
      have OWN := Lib.hid hown3
      have RR := Lib.hid R3
      have HSZ3 := Lib.hid hsz3
      have HM1 : Hid (k + 1 ≤ maxLen) := by show _ ≤ _; unfold maxLen; omega
      have HM2 : Hid ((k + 1) * 48 ≤ 140737488355328) := by show _ ≤ _; have := HOK.out; omega
      have HM3 : Hid (w.heap.size + 1 ≤ (v3.alloc (.cells #[.string (bs o1.kind), .int .i64 o1.a, .int .i64 o1.n, .string (bs o1.data)] 171)).heap.size) := by show _ ≤ _; have := bel3.size; have := HSZ3.out; simp; omega
      have NEWC : Hid (∀ u ∈ [Value.string (bs o1.kind), .int .i64 o1.a, .int .i64 o1.n, .string (bs o1.data)], u.oneCell' = true) := fun u hu => ocells_cell [o1] u (by rw [ocells_one]; exact hu)
      go_wp2_with (at_builtin; refine wpList_append_own _ rfl _ _ 122 rfl (w.heap.size + 1) 171 i0 _ 4 48 Tryz.underlying122 hi hz0 hz1 hz2 rfl (by decide) _ _ _ rfl (OWN.out.alloc _) ⟨v3.heap.size, 0, none⟩ 1 1 [.string (bs o1.kind), .int .i64 o1.a, .int .i64 o1.n, .string (bs o1.data)] rfl rfl (four_news (heap_alloc_new _ _)) (fun u hu => NEWC.out u hu) HM1.out HM2.out HM3.out ?_; intro v' v5 hown' hgrow _)
      have bel5 := (bel3.alloc bel3.size (.cells #[.string (bs o1.kind), .int .i64 o1.a, .int .i64 o1.n, .string (bs o1.data)] 171)).grown hgrow (by have := bel3.size; simp; omega) (fun j hj => by have := (OWN.out.lt j hj).1; omega)
      have hne : some w.heap.size ≠ Value.ownBlock u6 := fun e => by have := (OWN.out.lt _ e.symm).1; omega
      have R5 := (RAt.below RR.out (below_alloc' _ (.cells #[.string (bs o1.kind), .int .i64 o1.a, .int .i64 o1.n, .string (bs o1.data)] 171))).grown hgrow hne
      have hcells : ocells (out ++ [o1]) = ocells out ++ [.string (bs o1.kind), .int .i64 o1.a, .int .i64 o1.n, .string (bs o1.data)] := by
        rw [ocells_append, ocells_one]; simp only [POp.vals]
      go_roundw
      case rel => exact ⟨k + 1, out ++ [o1], m, d, by go_num, KK.out.1, by simp [HOK.out], by have := HO3.out; simp; omega, (fun h => by have := HSH.out h; have := HO3.out; simp; omega), by omega, by rw [KK.out.2]; exact HSTEP.out, R5, by rw [hcells]; exact hown', bel5⟩
      case measure => simp [intOf]; omega
    · have hEX : ro0 L = (out, l, c) := by
        rw [HRD.out]
        by_cases hc : c = 0
        · have : many - k = 0 := by omega
          rw [this, roL_end]
        · exact roL_err _ _ hc _
      have HEX := Lib.hid hEX
      clear hEX
      have WAYS : ¬ (k : Int) < many ∨ (k : Int) < many ∧ c ≠ 0 := by omega
      have EN := Lib.hid (rend_any E w.heap.size l c wr R (HT.out.below bel))
      clear hgo
      obtain ⟨A, cap, rfl⟩ := owns_slice hown
      have WAYS2 : ¬ (k : Int) < many ∨ (k : Int) < many ∧ ∃ x, ev E c = .iface 237 x := by
        rcases WAYS with h | ⟨h, hc⟩
        · exact .inl h
        · exact .inr ⟨h, _, ev_pos E hc⟩
      clear WAYS
      rcases WAYS2 with h | ⟨h, x, hx⟩
      all_goals
        try rw [hx] at r1
        try clear hx
        go_wp2_with fail
        refine EN.out.mono ?_
        rintro e v4 ⟨rfl, R4, g4⟩
        have bel4 := bel.grown g4 bel.size (fun k hk => by cases hk; exact Nat.le_refl _)
        have hown4 := owns_other' hown (Nat.lt_succ_self _) g4
        clear bel g4 hown R R4 r0 r1
        by_cases he : rEnd l c = 0
        · have CK := dcheck_any E A k cap out v4 (SliceIs.ownedK hown4) (HB.out.below bel4) (H3.out.below bel4) (H4.out.below bel4)
          have HCK := Lib.hid CK
          clear CK
          by_cases hcode : (chkOps out).1 = 0
          · have HR := Lib.hid (readO_ok HLONG.out HEX.out he hcode)
            have HC := Lib.hid hcode
            rw [he, ev_zero]
            clear he hcode
            go_wp2_with fail
            refine HCK.out.mono ?_
            rintro e v5 ⟨v, rfl, fe, b5⟩
            rw [HC.out] at fe
            rw [fe.zero]
            clear fe
            go_wp2_with fail
            go_ret2
            refine ⟨_, by rw [HR.out, ev_zero]; rfl, ?_, below_trans' bel4 b5⟩
            rw [HR.out]
            simp only []
            rw [HOK.out]
            exact owns_mono (owns_below hown4 b5) (by omega)
          · have HR := Lib.hid (readO_bad HLONG.out HEX.out he hcode)
            have HC := Lib.hid hcode
            rw [he, ev_zero]
            clear he hcode
            go_wp2_with fail
            refine HCK.out.mono ?_
            rintro e v5 ⟨v, rfl, fe, b5⟩
            have BA := Lib.hid (bare_any E v _ _ v5 fe)
            obtain ⟨t, p, hv⟩ := fe.some HC.out
            rw [hv] at BA ⊢
            clear fe hv
            go_wp2_with fail
            refine BA.out.mono ?_
            rintro e v6 ⟨rfl, rfl⟩
            go_wp2_with fail
            go_ret2
            refine ⟨.slice none 0 0, by rw [HR.out]; rfl, ?_, below_trans' bel4 b5⟩
            rw [HR.out]
            simp only []
            rw [ocells_nil]
            exact World.ownsRow_nil _ _ _ _
        · have HR := Lib.hid (readO_end HLONG.out HEX.out he)
          have hev := ev_is E he
          rw [hev]
          have HEV := Lib.hid hev
          unfold errv at HEV ⊢
          clear hev he
          go_wp2_with fail
          go_ret2
          refine ⟨.slice none 0 0, by rw [HR.out, HEV.out]; rfl, ?_, bel4⟩
          rw [HR.out]
          simp only []
          rw [ocells_nil]
          exact World.ownsRow_nil _ _ _ _
end Go.Proofs.YtdpoalbbcmkceaaGreatDoor
/- Plain laws of deltas: what data costs; blocks that are there twice. -/
namespace Go.Proofs.YtdpoalbbcmkceaaGreatDoor
open Go.RowKit
set_option linter.unusedVariables false

theorem costN_copy (out : List POp) (k : Int) : costN (addCopy out k) = costN out := by
  rcases split_last out with rfl | ⟨m, o, rfl⟩
  · rw [addCopy_nil, costN_append, costN_one]; simp
  · by_cases hc : o.kind = kCopy ∧ o.a + o.n = k
    · rw [addCopy_more m o k hc, costN_append, costN_append, costN_one, costN_one]
    · rw [addCopy_new m o k hc, costN_append, costN_one]; simp
theorem costN_data (out : List POp) (d : List UInt8) : costN (addData out d) = costN out + d.length := by
  rcases split_last out with rfl | ⟨m, o, rfl⟩
  · rw [addData_nil, costN_append, costN_one]
  · by_cases hc : o.kind = kData
    · rw [addData_more m o d hc, costN_append, costN_append, costN_one, costN_one]; simp; omega
    · rw [addData_new m o d hc, costN_append, costN_one]
theorem mkA_zero (l : List Blk) (size : Nat) (s : List UInt8) (out : List POp) : mkA l size 0 s out = out := by unfold mkA; rfl
theorem cost_mkA (l : List Blk) (size : Nat) : ∀ (f : Nat) (s : List UInt8) (out : List POp), costN (mkA l size f s out) ≤ costN out + s.length
  | 0, s, out => by rw [mkA_zero]; omega
  | f + 1, s, out => by
    by_cases hs : s = []
    · subst hs; rw [mkA_end]; omega
    · by_cases h : 0 ≤ findI l (blk (s.take size))
      · rw [mkA_copy hs h]
        have := cost_mkA l size f (s.drop size) (addCopy out (findI l (blk (s.take size))))
        rw [costN_copy, List.length_drop] at this
        omega
      · rw [mkA_data hs h]
        have := cost_mkA l size f (s.drop 1) (addData out (s.take 1))
        rw [costN_data] at this
        have hl : 0 < s.length := List.length_pos_iff.2 hs
        rw [List.length_take, List.length_drop] at this; omega
theorem mkOps_cost (l : List Blk) (size : Nat) (s : List UInt8) : costN (mkOps l size s) ≤ s.length := by
  have := cost_mkA l size s.length s []
  unfold mkOps
  rw [costN_nil] at this; omega
theorem mkA_ok (l : List Blk) (size : Nat) (hz : 1 ≤ size) (hl : l.length ≤ 4000) : ∀ (f : Nat) (s : List UInt8) (out : List POp) (i : Nat), OkOut out i → OkOut (mkA l size f s out) (i + s.length)
  | 0, s, out, i, h => by rw [mkA_zero]; exact h.mono (by omega)
  | f + 1, s, out, i, h => by
    by_cases hs : s = []
    · subst hs; rw [mkA_end]; exact h.mono (by omega)
    · have hp : 0 < s.length := List.length_pos_iff.2 hs
      by_cases hf : 0 ≤ findI l (blk (s.take size))
      · rw [mkA_copy hs hf]
        have hb := findI_bd l (blk (s.take size))
        exact (mkA_ok l size hz hl f (s.drop size) _ (i + 1) (h.copy ⟨hf, by omega⟩)).mono (by simp; omega)
      · rw [mkA_data hs hf]
        exact (mkA_ok l size hz hl f (s.drop 1) _ (i + 1) (h.data (by simp; omega))).mono (by simp; omega)
theorem mkOps_ok (l : List Blk) (size : Nat) (s : List UInt8) (hz : 1 ≤ size) (hl : l.length ≤ 4000) : OkOut (mkOps l size s) s.length := by
  have := mkA_ok l size hz hl s.length s [] 0 (OkOut.nil 0)
  unfold mkOps; rw [Nat.zero_add] at this; exact this

theorem findB_no (l : List Blk) (x : Blk) (i : Nat) (h : ¬ 0 ≤ findB l x i) : findB l x i = -1 ∧ ∀ b ∈ l, b ≠ x := by
  induction l generalizing i with
  | nil => exact ⟨by have := (findB_bd [] x i).1; omega, by simp⟩
  | cons b l ih =>
    rw [findB_cons] at h ⊢
    split at h
    · omega
    · rename_i hb
      obtain ⟨h1, h2⟩ := ih (i + 1) h
      rw [if_neg hb]
      refine ⟨h1, fun c hc => ?_⟩
      rcases List.mem_cons.1 hc with rfl | hc
      · exact hb
      · exact h2 c hc
theorem findB_none (l : List Blk) (x : Blk) (i : Nat) (h : ∀ b ∈ l, b ≠ x) : findB l x i = -1 := by
  induction l generalizing i with
  | nil => have := findB_end ([] : List Blk) x i (by simp); simpa using this
  | cons b l ih => rw [findB_cons, if_neg (h b (by simp))]; exact ih (i + 1) (fun c hc => h c (by simp [hc]))
theorem findB_twice (a b : List Blk) (x : Blk) : ∀ i, 0 ≤ findB a x i → findB (a ++ b) x i = findB a x i := by
  induction a with
  | nil => intro i h; have := findB_none [] x i (by simp); omega
  | cons c a ih =>
    intro i h
    rw [List.cons_append, findB_cons, findB_cons] at *
    split
    · rfl
    · rename_i hc; rw [if_neg hc] at h; exact ih (i + 1) h
theorem findI_twice (l : List Blk) (x : Blk) : findI (l ++ l) x = findI l x := by
  unfold findI
  by_cases h : 0 ≤ findB l x 0
  · exact findB_twice l l x 0 h
  · obtain ⟨h1, h2⟩ := findB_no l x 0 h
    rw [h1]
    exact findB_none _ _ _ (fun b hb => by rcases List.mem_append.1 hb with h | h <;> exact h2 b h)
theorem mkA_twice (l : List Blk) (size : Nat) : ∀ (f : Nat) (s : List UInt8) (out : List POp), mkA (l ++ l) size f s out = mkA l size f s out
  | 0, s, out => by rw [mkA_zero, mkA_zero]
  | f + 1, s, out => by
    by_cases hs : s = []
    · subst hs; rw [mkA_end, mkA_end]
    · by_cases h : 0 ≤ findI l (blk (s.take size))
      · rw [mkA_copy hs h, mkA_copy hs (by rw [findI_twice]; exact h), findI_twice]; exact mkA_twice l size f _ _
      · rw [mkA_data hs h, mkA_data hs (by rw [findI_twice]; exact h)]; exact mkA_twice l size f _ _
theorem mkOps_twice (l : List Blk) (size : Nat) (s : List UInt8) : mkOps (l ++ l) size s = mkOps l size s := mkA_twice l size _ _ _

theorem findB_has (l : List Blk) (x : Blk) (i : Nat) (h : x ∈ l) : 0 ≤ findB l x i := by
  by_cases hf : 0 ≤ findB l x i
  · exact hf
  · exact absurd rfl ((findB_no l x i hf).2 x h)
theorem findI_has (l : List Blk) (x : Blk) (h : x ∈ l) : 0 ≤ findI l x := findB_has l x 0 h
theorem blks_mem (size : Nat) (L : List UInt8) (k : Nat) (hs : 0 < size) (h : k * size < L.length) : blk ((L.drop (k * size)).take size) ∈ blks size L := by
  have hk : k < (blks size L).length := by
    rw [blks_len]
    unfold cntOf
    rw [Nat.lt_iff_add_one_le, Nat.le_div_iff_mul_le hs, Nat.add_mul]; omega
  rw [← blks_get size L k hk]
  exact List.getElem_mem hk
/-- of a file that goes on only what is new is data -/
theorem cost_goes_on (size : Nat) (L M : List UInt8) (q : Nat) (hs : 0 < size) (hq : L.length = q * size) : ∀ (j : Nat), j ≤ q → ∀ (f : Nat) (out : List POp), costN (mkA (blks size L) size f ((L ++ M).drop ((q - j) * size)) out) ≤ costN out + M.length
  | 0, _, f, out => by
    have := cost_mkA (blks size L) size f ((L ++ M).drop ((q - 0) * size)) out
    simp at this
    rw [Nat.sub_zero]; omega
  | j + 1, hj, 0, out => by rw [mkA_zero]; omega
  | j + 1, hj, f + 1, out => by
    have e : (q - j) * size = (q - (j + 1)) * size + size := by
      rw [show q - j = (q - (j + 1)) + 1 by omega, Nat.add_mul]; omega
    have hlt : (q - (j + 1)) * size + size ≤ L.length := by
      rw [← e, hq]; exact Nat.mul_le_mul_right _ (by omega)
    have hne : (L ++ M).drop ((q - (j + 1)) * size) ≠ [] := by
      intro h; have := congrArg List.length h; simp at this; omega
    have ht : ((L ++ M).drop ((q - (j + 1)) * size)).take size = (L.drop ((q - (j + 1)) * size)).take size := by
      rw [List.drop_append_of_le_length (by omega), List.take_append_of_le_length (by simp; omega)]
    have hm := findI_has _ _ (blks_mem size L (q - (j + 1)) hs (by omega))
    rw [← ht] at hm
    rw [mkA_copy hne hm, List.drop_drop, ← e]
    have := cost_goes_on size L M q hs hq j (by omega) f (addCopy out (findI (blks size L) (blk (((L ++ M).drop ((q - (j + 1)) * size)).take size))))
    rw [costN_copy] at this
    exact this
theorem mkOps_goes_on (size : Nat) (L M : List UInt8) (q : Nat) (hs : 0 < size) (hq : L.length = q * size) : costN (mkOps (blks size L) size (L ++ M)) ≤ M.length := by
  have := cost_goes_on size L M q hs hq q (Nat.le_refl _) (L ++ M).length []
  rw [Nat.sub_self, Nat.zero_mul, List.drop_zero, costN_nil] at this
  unfold mkOps; omega
theorem chkA_full_all (size : Int) (h1 : 1 ≤ size) : ∀ (l : List Blk) (i : Nat) (all : Int), (∀ b ∈ l, b.N = size ∧ 0 ≤ b.W ∧ b.W < 4294967296) → all + l.length * size ≤ 4000 → chkA size l i all = (0, -1)
  | [], i, all, _, _ => by rw [chkA]
  | b :: l, i, all, h, ha => by
    have hb := h b (by simp)
    have e : ((b :: l).length : Int) * size = l.length * size + size := by simp only [List.length_cons]; rw [Int.natCast_add, Int.add_mul]; omega
    have hp : 0 ≤ (l.length : Int) * size := Int.mul_nonneg (by omega) (by omega)
    rw [e] at ha
    rw [chkA, if_neg (by unfold badB; omega), if_neg (by rw [hb.1]; omega)]
    exact chkA_full_all size h1 l (i + 1) _ (fun c hc => h c (by simp [hc])) (by rw [hb.1]; omega)
theorem blks_full (size : Nat) (L : List UInt8) (q : Nat) (hs : 0 < size) (hq : L.length = q * size) : ∀ b ∈ blks size L, b.N = size ∧ 0 ≤ b.W ∧ b.W < 4294967296 := by
  intro b hb
  obtain ⟨k, hk, rfl⟩ := List.getElem_of_mem hb
  rw [blks_get]
  rw [blks_len] at hk
  have hc : cntOf size L.length = q := cnt_is (by omega) (by omega)
  rw [hc] at hk
  have : (k + 1) * size ≤ q * size := Nat.mul_le_mul_right _ (by omega)
  rw [Nat.add_mul] at this
  have hw := ws_bd ((L.drop (k * size)).take size)
  rw [blk_is]
  refine ⟨?_, hw.1, hw.2⟩
  simp; omega
theorem twice_chk (size : Nat) (L : List UInt8) (q : Nat) (h1 : 1 ≤ size) (h2 : size ≤ 64) (hq : L.length = q * size) (hL : L.length ≤ 1000) : chk (blks size L ++ blks size L) size = (0, -1) := by
  rw [chk_yes (by omega)]
  have hc : (blks size L).length = q := by rw [blks_len]; exact cnt_is (by omega) (by omega)
  refine chkA_full_all size (by omega) _ _ _ (fun b hb => by rcases List.mem_append.1 hb with h | h <;> exact blks_full size L q h1 hq b h) ?_
  rw [List.length_append, hc]
  have : ((q + q : Nat) : Int) * (size : Int) = ((q * size + q * size : Nat) : Int) := by rw [← Int.natCast_mul, Nat.add_mul]
  rw [this]; omega
theorem made_data : mkOps (blks 3 [97, 98, 99, 100, 101, 102]) 3 [120, 97, 98, 99, 100, 101, 102] = [⟨kData, 0, 0, [120]⟩, ⟨kCopy, 0, 2, []⟩] := by decide +kernel
end Go.Proofs.YtdpoalbbcmkceaaGreatDoor
/- Contracts: the reference's SameOps; the statements' OwnBlocks. -/
namespace Go.Proofs.YtdpoalbbcmkceaaGreatDoor
open Go.RowKit
set_option linter.unusedVariables false

def sameO (a b : List POp) : Bool := decide (a = b)
theorem sameO_yes {a b : List POp} (h : a = b) : sameO a b = true := by simp [sameO, h]
theorem sameO_no {a b : List POp} (h : a ≠ b) : sameO a b = false := by simp [sameO, h]
attribute [irreducible] sameO
theorem bs_ne {a b : List UInt8} (h : a ≠ b) : ((bs a).toList == (bs b).toList) = false := by simp [ByteArray.toList_eq, h]
theorem bs_sne {a b : List UInt8} (h : a ≠ b) : (!((bs a).toList == (bs b).toList)) = true := by simp [ByteArray.toList_eq, h]

theorem blks_sl {w : World} {s0 : Option Addr} {n0 c0 : Nat} {l : List Blk} (hl : SliceIs w (.slice s0 n0 c0) 3 (bcells l)) : l.length = n0 ∧ c0 ≤ 9223372036854775807 ∧ n0 ≤ c0 := by
  obtain ⟨s0', n0', c0', e1, e2, e3, e4, _⟩ := hl.get
  cases e1
  rw [bcells_len] at e2
  unfold maxLen at e4
  exact ⟨by omega, by omega, e3⟩
end Go.Proofs.YtdpoalbbcmkceaaGreatDoor
