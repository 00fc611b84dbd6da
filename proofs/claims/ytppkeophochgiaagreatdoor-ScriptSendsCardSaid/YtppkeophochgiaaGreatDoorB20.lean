/- Texts of one proof, one behind the other: Maker, Maker2, SignLaws, Make. -/
import Derived.Test.YtppkeophochgiaaGreatDoorB19
/- Contracts of delta's maker: copy, data. -/
namespace Go.Proofs.YtppkeophochgiaaGreatDoor
open Go.RowKit
set_option linter.unusedVariables false

def addCopy (l : List POp) (k : Int) : List POp :=
  match l.getLast? with
  | none => l ++ [⟨kCopy, k, 1, []⟩]
  | some o => if o.kind = kCopy ∧ o.a + o.n = k then l.dropLast ++ [⟨o.kind, o.a, o.n + 1, o.data⟩] else l ++ [⟨kCopy, k, 1, []⟩]
def addData (l : List POp) (d : List UInt8) : List POp :=
  match l.getLast? with
  | none => l ++ [⟨kData, 0, 0, d⟩]
  | some o => if o.kind = kData then l.dropLast ++ [⟨o.kind, o.a, o.n, o.data ++ d⟩] else l ++ [⟨kData, 0, 0, d⟩]
theorem addCopy_nil (k : Int) : addCopy [] k = [] ++ [⟨kCopy, k, 1, []⟩] := rfl
theorem addCopy_more (m : List POp) (o : POp) (k : Int) (h : o.kind = kCopy ∧ o.a + o.n = k) : addCopy (m ++ [o]) k = m ++ [⟨o.kind, o.a, o.n + 1, o.data⟩] := by unfold addCopy; simp [h]
theorem addCopy_new (m : List POp) (o : POp) (k : Int) (h : ¬ (o.kind = kCopy ∧ o.a + o.n = k)) : addCopy (m ++ [o]) k = (m ++ [o]) ++ [⟨kCopy, k, 1, []⟩] := by
  unfold addCopy
  rw [List.getLast?_append]
  simp only [List.getLast?_singleton, Option.some_or]
  rw [if_neg h]
theorem addData_nil (d : List UInt8) : addData [] d = [] ++ [⟨kData, 0, 0, d⟩] := rfl
theorem addData_more (m : List POp) (o : POp) (d : List UInt8) (h : o.kind = kData) : addData (m ++ [o]) d = m ++ [⟨o.kind, o.a, o.n, o.data ++ d⟩] := by unfold addData; simp [h]
theorem addData_new (m : List POp) (o : POp) (d : List UInt8) (h : o.kind ≠ kData) : addData (m ++ [o]) d = (m ++ [o]) ++ [⟨kData, 0, 0, d⟩] := by
  unfold addData
  rw [List.getLast?_append]
  simp only [List.getLast?_singleton, Option.some_or]
  rw [if_neg h]
attribute [irreducible] addCopy addData
/-- a maker at block b -/
def MRaw (w : World) (b : Nat) (v : Value) (l : List POp) : Prop := w.heap[b]? = some (.cells #[v] 244 (0, 0)) ∧ w.ownsRow (b + 1) 106 4 v l.length (ocells l)
def MAt (w : World) (b : Nat) (l : List POp) : Prop := ∃ v, MRaw w b v l
theorem MRaw.lt {w : World} {b : Nat} {v : Value} {l : List POp} (h : MRaw w b v l) : b < w.heap.size := lt_of_block h.1
theorem MAt.lt {w : World} {b : Nat} {l : List POp} (h : MAt w b l) : b < w.heap.size := by obtain ⟨v, h⟩ := h; exact h.lt
theorem MRaw.c0 {w : World} {b : Nat} {v : Value} {l : List POp} (h : MRaw w b v l) : w.cell? ⟨b, 0, none⟩ = some v := by have := h.1; simp [World.cell?, this]
theorem MRaw.below {w w' : World} {b : Nat} {v : Value} {l : List POp} (h : MRaw w b v l) (hb : Below w.heap.size w w') : MRaw w' b v l :=
  ⟨(hb.block b h.lt).trans h.1, owns_below h.2 hb⟩
theorem MAt.below {w w' : World} {b : Nat} {l : List POp} (h : MAt w b l) (hb : Below w.heap.size w w') : MAt w' b l := by obtain ⟨v, h⟩ := h; exact ⟨v, h.below hb⟩
theorem MAt.new (w : World) : MAt (w.alloc (.cells #[.slice none 0 0] 244)) w.heap.size [] :=
  ⟨.slice none 0 0, heap_alloc_new _ _, by rw [ocells_nil]; exact World.ownsRow_nil _ _ _ _⟩
theorem MRaw.grown {w w' : World} {o : Obj} {b : Nat} {v : Value} {l : List POp} (h : MRaw w b v l) (hg : (w.alloc o).grownBy w' v.ownBlock) : w'.heap[b]? = some (.cells #[v] 244 (0, 0)) :=
  (hg.block b (by have := h.lt; simp; omega) (fun e => by have := h.2.lt b e.symm; omega)).trans ((Below.heap_alloc w o b h.lt).trans h.1)
theorem MRaw.cg {w w' : World} {o : Obj} {b : Nat} {v : Value} {l : List POp} (h : MRaw w b v l) (hg : (w.alloc o).grownBy w' v.ownBlock) : w'.cell? ⟨b, 0, none⟩ = some v := by simp [World.cell?, h.grown hg]
theorem MRaw.fg {w w' : World} {o : Obj} {b : Nat} {v : Value} {l : List POp} (h : MRaw w b v l) (hg : (w.alloc o).grownBy w' v.ownBlock) : w'.frozen? ⟨b, 0, none⟩ = false := by simp [World.frozen?, h.grown hg]
theorem MRaw.tail {w w' : World} {o : Obj} {b : Nat} {v v' : Value} {l : List POp} {p : POp} (h : MRaw w b v l) (h1 : w'.ownsRow (b + 1) 106 4 v' (l.length + 1) (ocells l ++ p.vals)) (hg : (w.alloc o).grownBy w' v.ownBlock) :
    MAt (w'.setCell ⟨b, 0, none⟩ v') b (l ++ [p]) ∧ Below b w (w'.setCell ⟨b, 0, none⟩ v') := by
  refine ⟨⟨v', set_at (h.grown hg), ?_⟩, ((((Below.refl b w).alloc (Nat.le_of_lt h.lt) o).grown hg (by have := h.lt; simp; omega) (fun k hk => by have := h.2.lt k hk; omega)).setCell (p := ⟨b, 0, none⟩) (Nat.le_refl _) _)⟩
  have := ownsRow_setCell_below h1 (a := ⟨b, 0, none⟩) (Nat.lt_succ_self b) v'
  rw [ocells_append, ocells_one, List.length_append]
  exact this
theorem four_news {w : World} {b : Nat} {u0 u1 u2 u3 : Value} (h : w.heap[b]? = some (.cells #[u0, u1, u2, u3] 106 (0, 0))) : ∀ j u', [u0, u1, u2, u3][j]? = some u' → w.cell? ((⟨b, 0, none⟩ : Addr).add j) = some u' := by
  intro j u' hj
  match j, hj with
  | 0, hj => simp at hj; subst hj; simp [World.cell?, h, Addr.add]
  | 1, hj => simp at hj; subst hj; simp [World.cell?, h, Addr.add]
  | 2, hj => simp at hj; subst hj; simp [World.cell?, h, Addr.add]
  | 3, hj => simp at hj; subst hj; simp [World.cell?, h, Addr.add]

theorem split_last (l : List POp) : l = [] ∨ ∃ m o, l = m ++ [o] := by
  rcases List.eq_nil_or_concat l with h | ⟨m, o, h⟩
  · exact .inl h
  · exact .inr ⟨m, o, by simpa using h⟩
/-- the last op's cells -/
theorem MRaw.last {w : World} {b : Nat} {v : Value} {m : List POp} {o : POp} (h : MRaw w b v (m ++ [o])) : ∃ g cap, v = .slice (some ⟨g, 0, none⟩) (m.length + 1) cap ∧ b < g ∧ m.length + 1 ≤ cap ∧ cap ≤ maxLen ∧ w.cell? ⟨g, m.length * 4, none⟩ = some (.string (bs o.kind)) ∧ w.cell? ⟨g, m.length * 4 + 1, none⟩ = some (.int .i64 o.a) ∧
    w.cell? ⟨g, m.length * 4 + 2, none⟩ = some (.int .i64 o.n) ∧ w.cell? ⟨g, m.length * 4 + 3, none⟩ = some (.string (bs o.data)) ∧ (∀ j, w.frozen? ⟨g, j, none⟩ = false) := by
  obtain ⟨g, cap, hv, hg, _, h3, h4, hc, hf⟩ := owns_open h.2 (by simp)
  obtain ⟨g0, g1, g2, g3⟩ := ocells_get (m ++ [o]) m.length (by simp)
  simp only [List.getElem_append_right (Nat.le_refl _), Nat.sub_self, List.getElem_singleton] at g0 g1 g2 g3
  exact ⟨g, cap, by rw [hv]; simp, by omega, by simpa using h3, h4, hc _ _ g0, hc _ _ g1, hc _ _ g2, hc _ _ g3, hf⟩

theorem below_undrew {b n : Nat} {w w' : World} (h : Below b (w.drewN n) w') : Below b w w' := ⟨h.os, h.tape, h.output, h.size, h.block⟩
theorem MRaw.store {w : World} {b g cap : Nat} {m : List POp} {o p : POp} (j : Nat) (u : Value) (h : MRaw w b (.slice (some ⟨g, 0, none⟩) (m.length + 1) cap) (m ++ [o])) (hj : j < 4) (hp : o.vals.set j u = p.vals) :
    MAt (w.setCell ⟨g, m.length * 4 + j, none⟩ u) b (m ++ [p]) ∧ Below b w (w.setCell ⟨g, m.length * 4 + j, none⟩ u) := by
  have hn : (m ++ [o]).length = m.length + 1 := by simp
  have ho := h.2
  rw [hn] at ho
  have hg := ho.lt g rfl
  have hs := ho.stored (m.length * 4 + j) u
  have hc : (ocells (m ++ [o])).set (m.length * 4 + j) u = ocells (m ++ [p]) := by
    rw [ocells_append, ocells_append, ocells_one, ocells_one, List.set_append_right _ _ (by rw [ocells_len]; omega), ocells_len, Nat.add_sub_cancel_left, hp]
  refine ⟨⟨.slice (some ⟨g, 0, none⟩) (m.length + 1) cap, ?_, ?_⟩, (Below.refl b w).setCell (p := ⟨g, m.length * 4 + j, none⟩) (by show b ≤ g; omega) u⟩
  · exact (Below.heap_setCell w ⟨g, m.length * 4 + j, none⟩ u b (by show b ≠ g; omega)).trans h.1
  · rw [show (m ++ [p]).length = m.length + 1 by simp, ← hc]; exact hs.1
theorem copyVals (k : Int) : POp.vals ⟨kCopy, k, 1, []⟩ = [.string ⟨#[99, 111, 112, 121]⟩, .int .i64 k, .int .i64 1, .string ⟨#[]⟩] := by simp only [POp.vals, bs_kCopy, bs_nil]
theorem dataVals (d : List UInt8) : POp.vals ⟨kData, 0, 0, d⟩ = [.string ⟨#[100, 97, 116, 97]⟩, .int .i64 0, .int .i64 0, .string (bs d)] := by simp only [POp.vals, bs_kData]

set_option maxRecDepth 100000 in
set_option maxHeartbeats 3200000 in
theorem mcopy_any (b : Nat) (l : List POp) (k : Int) (w : World) (h : MAt w b l) (hl : l.length ≤ 1000000) (hb : ∀ o ∈ l, 0 ≤ o.a ∧ o.a ≤ 1000000 ∧ 0 ≤ o.n ∧ o.n ≤ 1000000 ∧ o.data.length ≤ 1000000) (hk : 0 ≤ k ∧ k ≤ 1000000) :
    Calls Tryz.prog 154 #[.pointer (some ⟨b, 0, none⟩), .int .i64 k] w fun e w' => e = .returned (.tuple #[]) ∧ MAt w' b (addCopy l k) ∧ Below b w w' := by
  obtain ⟨i0, hi, hz0, hz1, hz2⟩ := info_parts info_op
  obtain ⟨v, h⟩ := h
  have c0 := h.c0
  rcases split_last l with rfl | ⟨m, o, rfl⟩
  · have HR := Lib.hid h
    have hown := h.2
    obtain ⟨A, cap, rfl⟩ := owns_sl hown
    rw [addCopy_nil]
    clear h hb hl hown
    go_enter Tryz.func154, Tryz.ntmps154
    go_wp2_with fail
    go_quiet (fail)
    have NEWC : Hid (∀ u ∈ ([.string ⟨#[99, 111, 112, 121]⟩, .int .i64 k, .int .i64 1, .string ⟨#[]⟩] : List Value), u.oneCell' = true) := fun u hu => by simp at hu; rcases hu with rfl | rfl | rfl | rfl <;> rfl
    have OWN := Lib.hid (show World.ownsRow (w.drewN nq) (b + 1) 106 4 _ 0 _ from HR.out.2)
    have WR := Lib.hid (show MRaw (w.drewN nq) b _ _ from HR.out)
    have HM1 : Hid (0 + 1 ≤ maxLen) := by show _ ≤ _; unfold maxLen; omega
    have HM2 : Hid ((0 + 1) * 48 ≤ 140737488355328) := by show _ ≤ _; omega
    have HM3 : Hid (b + 1 ≤ ((w.drewN nq).alloc (.cells #[.string ⟨#[99, 111, 112, 121]⟩, .int .i64 k, .int .i64 1, .string ⟨#[]⟩] 106)).heap.size) := by show _ ≤ _; have := HR.out.lt; simp; omega
    go_wp2_with (at_builtin; refine wpList_append_own _ rfl _ _ 100 rfl (b + 1) 106 i0 _ 4 48 Tryz.underlying100 hi hz0 hz1 hz2 rfl (by decide) _ _ _ rfl (OWN.out.alloc _) ⟨w.heap.size, 0, none⟩ 1 1 [.string ⟨#[99, 111, 112, 121]⟩, .int .i64 k, .int .i64 1, .string ⟨#[]⟩] rfl rfl (four_news (heap_alloc_new (w.drewN nq) _)) (fun u hu => NEWC.out u hu) HM1.out HM2.out HM3.out ?_; intro v' w3 hown' hgrow _; obtain ⟨A', q', rfl⟩ := owns_sl hown'; have fb := MRaw.fg WR.out hgrow; have cb := MRaw.cg WR.out hgrow)
    have T := MRaw.tail (p := ⟨kCopy, k, 1, []⟩) WR.out (by rw [copyVals]; exact hown') hgrow
    go_returns
    exact ⟨rfl, T.1, by first | exact T.2 | exact below_undrew T.2⟩
  · obtain ⟨g, cap, rfl, hg, hc1, hc2, d0, d1, d2, d3, df⟩ := h.last
    obtain ⟨y1, y2, y3, y4, y5⟩ := hb o (by simp)
    have hml : m.length ≤ 1000000 := by simp at hl; omega
    have HR := Lib.hid h
    have HDF := Lib.hid df
    clear h hb hl df
    unfold maxLen at hc2
    by_cases hkk : o.kind = kCopy
    · have k1 := tl_eq o.kind [99, 111, 112, 121] (by rw [hkk, kCopy_is])
      by_cases hak : o.a + o.n = k
      · rw [addCopy_more m o k ⟨hkk, hak⟩]
        have q1 : (o.a + o.n == k) = true := by simp [hak]
        have HAK := Lib.hid hak
        have f2 := HDF.out (m.length * 4 + 2)
        clear hkk hak
        go_enter Tryz.func154, Tryz.ntmps154
        go_wp2_with fail
        go_quiet (fail)
        go_wp2_with fail
        have T := (MRaw.store (w := w.drewN nq) (p := ⟨o.kind, o.a, o.n + 1, o.data⟩) 2 (.int .i64 (o.n + 1)) HR.out (by decide) rfl)
        go_returns
        exact ⟨rfl, T.1, below_undrew T.2⟩
      · rw [addCopy_new m o k (fun h => hak h.2)]
        have q1 : (o.a + o.n == k) = false := by simp [hak]
        have HLEN : (m ++ [o]).length = m.length + 1 := by simp
        have HLN := Lib.hid HLEN
        clear hkk hak HLEN
        go_enter Tryz.func154, Tryz.ntmps154
        go_wp2_with fail
        go_quiet (fail)
        have NEWC : Hid (∀ u ∈ ([.string ⟨#[99, 111, 112, 121]⟩, .int .i64 k, .int .i64 1, .string ⟨#[]⟩] : List Value), u.oneCell' = true) := fun u hu => by simp at hu; rcases hu with rfl | rfl | rfl | rfl <;> rfl
        have OWN := Lib.hid (show World.ownsRow (w.drewN nq) (b + 1) 106 4 (.slice (some ⟨g, 0, none⟩) (m.length + 1) cap) (m.length + 1) (ocells (m ++ [o])) from (by have := HR.out.2; rw [HLN.out] at this; exact this))
        have WR := Lib.hid (show MRaw (w.drewN nq) b _ _ from HR.out)
        have HM1 : Hid ((m.length + 1) + 1 ≤ maxLen) := by show _ ≤ _; unfold maxLen; omega
        have HM2 : Hid (((m.length + 1) + 1) * 48 ≤ 140737488355328) := by show _ ≤ _; omega
        have HM3 : Hid (b + 1 ≤ ((w.drewN nq).alloc (.cells #[.string ⟨#[99, 111, 112, 121]⟩, .int .i64 k, .int .i64 1, .string ⟨#[]⟩] 106)).heap.size) := by show _ ≤ _; have := HR.out.lt; simp; omega
        go_wp2_with (at_builtin; refine wpList_append_own _ rfl _ _ 100 rfl (b + 1) 106 i0 _ 4 48 Tryz.underlying100 hi hz0 hz1 hz2 rfl (by decide) _ _ _ rfl (OWN.out.alloc _) ⟨w.heap.size, 0, none⟩ 1 1 [.string ⟨#[99, 111, 112, 121]⟩, .int .i64 k, .int .i64 1, .string ⟨#[]⟩] rfl rfl (four_news (heap_alloc_new (w.drewN nq) _)) (fun u hu => NEWC.out u hu) HM1.out HM2.out HM3.out ?_; intro v' w3 hown' hgrow _; obtain ⟨A', q', rfl⟩ := owns_sl hown'; have fb := MRaw.fg WR.out hgrow; have cb := MRaw.cg WR.out hgrow)
        have T := MRaw.tail (p := ⟨kCopy, k, 1, []⟩) WR.out (by rw [copyVals, HLN.out]; exact hown') hgrow
        go_returns
        exact ⟨rfl, T.1, by first | exact T.2 | exact below_undrew T.2⟩
    · have k1 := tl_ne o.kind [99, 111, 112, 121] (by rw [← kCopy_is]; exact hkk)
      rw [addCopy_new m o k (fun h => hkk h.1)]
      have HLEN : (m ++ [o]).length = m.length + 1 := by simp
      clear hkk
      have HLN := Lib.hid HLEN
      clear HLEN
      go_enter Tryz.func154, Tryz.ntmps154
      go_wp2_with fail
      go_quiet (fail)
      have NEWC : Hid (∀ u ∈ ([.string ⟨#[99, 111, 112, 121]⟩, .int .i64 k, .int .i64 1, .string ⟨#[]⟩] : List Value), u.oneCell' = true) := fun u hu => by simp at hu; rcases hu with rfl | rfl | rfl | rfl <;> rfl
      have OWN := Lib.hid (show World.ownsRow (w.drewN nq) (b + 1) 106 4 (.slice (some ⟨g, 0, none⟩) (m.length + 1) cap) (m.length + 1) (ocells (m ++ [o])) from (by have := HR.out.2; rw [HLN.out] at this; exact this))
      have WR := Lib.hid (show MRaw (w.drewN nq) b _ _ from HR.out)
      have HM1 : Hid ((m.length + 1) + 1 ≤ maxLen) := by show _ ≤ _; unfold maxLen; omega
      have HM2 : Hid (((m.length + 1) + 1) * 48 ≤ 140737488355328) := by show _ ≤ _; omega
      have HM3 : Hid (b + 1 ≤ ((w.drewN nq).alloc (.cells #[.string ⟨#[99, 111, 112, 121]⟩, .int .i64 k, .int .i64 1, .string ⟨#[]⟩] 106)).heap.size) := by show _ ≤ _; have := HR.out.lt; simp; omega
      go_wp2_with (at_builtin; refine wpList_append_own _ rfl _ _ 100 rfl (b + 1) 106 i0 _ 4 48 Tryz.underlying100 hi hz0 hz1 hz2 rfl (by decide) _ _ _ rfl (OWN.out.alloc _) ⟨w.heap.size, 0, none⟩ 1 1 [.string ⟨#[99, 111, 112, 121]⟩, .int .i64 k, .int .i64 1, .string ⟨#[]⟩] rfl rfl (four_news (heap_alloc_new (w.drewN nq) _)) (fun u hu => NEWC.out u hu) HM1.out HM2.out HM3.out ?_; intro v' w3 hown' hgrow _; obtain ⟨A', q', rfl⟩ := owns_sl hown'; have fb := MRaw.fg WR.out hgrow; have cb := MRaw.cg WR.out hgrow)
      have T := MRaw.tail (p := ⟨kCopy, k, 1, []⟩) WR.out (by rw [copyVals, HLN.out]; exact hown') hgrow
      go_returns
      exact ⟨rfl, T.1, by first | exact T.2 | exact below_undrew T.2⟩
end Go.Proofs.YtppkeophochgiaaGreatDoor
/- Contract of delta's maker: data. -/
namespace Go.Proofs.YtppkeophochgiaaGreatDoor
open Go.RowKit

set_option maxRecDepth 100000 in
set_option maxHeartbeats 3200000 in
theorem mdata_any (b : Nat) (l : List POp) (d : List UInt8) (w : World) (h : MAt w b l) (hl : l.length ≤ 1000000) (hb : ∀ o ∈ l, 0 ≤ o.a ∧ o.a ≤ 1000000 ∧ 0 ≤ o.n ∧ o.n ≤ 1000000 ∧ o.data.length ≤ 1000000) (hd : d.length ≤ 1000000) :
    Calls Tryz.prog 155 #[.pointer (some ⟨b, 0, none⟩), .string (bs d)] w fun e w' => e = .returned (.tuple #[]) ∧ MAt w' b (addData l d) ∧ Below b w w' := by
  obtain ⟨i0, hi, hz0, hz1, hz2⟩ := info_parts info_op
  obtain ⟨v, h⟩ := h
  have c0 := h.c0
  rcases split_last l with rfl | ⟨m, o, rfl⟩
  · have HR := Lib.hid h
    have hown := h.2
    obtain ⟨A, cap, rfl⟩ := owns_sl hown
    rw [addData_nil]
    clear h hb hl hown
    have NEWC : Hid (∀ u ∈ ([.string ⟨#[100, 97, 116, 97]⟩, .int .i64 0, .int .i64 0, .string (bs d)] : List Value), u.oneCell' = true) := fun u hu => by simp at hu; rcases hu with rfl | rfl | rfl | rfl <;> rfl
    have OWN := Lib.hid (show World.ownsRow w (b + 1) 106 4 _ 0 _ from HR.out.2)
    have WR := Lib.hid (show MRaw w b _ _ from HR.out)
    have HM1 : Hid (0 + 1 ≤ maxLen) := by show _ ≤ _; unfold maxLen; omega
    have HM2 : Hid ((0 + 1) * 48 ≤ 140737488355328) := by show _ ≤ _; omega
    have HM3 : Hid (b + 1 ≤ (w.alloc (.cells #[.string ⟨#[100, 97, 116, 97]⟩, .int .i64 0, .int .i64 0, .string (bs d)] 106)).heap.size) := by show _ ≤ _; have := HR.out.lt; simp; omega
    go_enter Tryz.func155, Tryz.ntmps155
    go_wp2_with (at_builtin; refine wpList_append_own _ rfl _ _ 100 rfl (b + 1) 106 i0 _ 4 48 Tryz.underlying100 hi hz0 hz1 hz2 rfl (by decide) _ _ _ rfl (OWN.out.alloc _) ⟨w.heap.size, 0, none⟩ 1 1 [.string ⟨#[100, 97, 116, 97]⟩, .int .i64 0, .int .i64 0, .string (bs d)] rfl rfl (four_news (heap_alloc_new w _)) (fun u hu => NEWC.out u hu) HM1.out HM2.out HM3.out ?_; intro v' w3 hown' hgrow _; obtain ⟨A', q', rfl⟩ := owns_sl hown'; have fb := MRaw.fg WR.out hgrow; have cb := MRaw.cg WR.out hgrow)
    have T := MRaw.tail (p := ⟨kData, 0, 0, d⟩) WR.out (by rw [dataVals]; exact hown') hgrow
    go_returns
    exact ⟨rfl, T.1, by first | exact T.2 | exact below_undrew T.2⟩
  · obtain ⟨g, cap, rfl, hg, hc1, hc2, d0, d1, d2, d3, df⟩ := h.last
    obtain ⟨y1, y2, y3, y4, y5⟩ := hb o (by simp)
    have hml : m.length ≤ 1000000 := by simp at hl; omega
    have HR := Lib.hid h
    have HDF := Lib.hid df
    clear h hb hl df
    unfold maxLen at hc2
    by_cases hkk : o.kind = kData
    · have k1 := tl_eq o.kind [100, 97, 116, 97] (by rw [hkk, kData_is])
      rw [addData_more m o d hkk]
      have f2 := HDF.out (m.length * 4 + 3)
      have hcat : ¬ 9223372036854775807 < o.data.length + d.length := by omega
      clear hkk
      go_enter Tryz.func155, Tryz.ntmps155
      go_wp2_with fail
      have T := (MRaw.store (w := w) (p := ⟨o.kind, o.a, o.n, o.data ++ d⟩) 3 (.string (bs o.data ++ bs d)) HR.out (by decide) (by rw [bsapp]; rfl))
      go_returns
      exact ⟨rfl, T.1, T.2⟩
    · have k1 := tl_ne o.kind [100, 97, 116, 97] (by rw [← kData_is]; exact hkk)
      rw [addData_new m o d hkk]
      have HLEN : (m ++ [o]).length = m.length + 1 := by simp
      clear hkk
      have HLN := Lib.hid HLEN
      clear HLEN
      have NEWC : Hid (∀ u ∈ ([.string ⟨#[100, 97, 116, 97]⟩, .int .i64 0, .int .i64 0, .string (bs d)] : List Value), u.oneCell' = true) := fun u hu => by simp at hu; rcases hu with rfl | rfl | rfl | rfl <;> rfl
      have OWN := Lib.hid (show World.ownsRow w (b + 1) 106 4 (.slice (some ⟨g, 0, none⟩) (m.length + 1) cap) (m.length + 1) (ocells (m ++ [o])) from (by have := HR.out.2; rw [HLN.out] at this; exact this))
      have WR := Lib.hid (show MRaw w b _ _ from HR.out)
      have HM1 : Hid ((m.length + 1) + 1 ≤ maxLen) := by show _ ≤ _; unfold maxLen; omega
      have HM2 : Hid (((m.length + 1) + 1) * 48 ≤ 140737488355328) := by show _ ≤ _; omega
      have HM3 : Hid (b + 1 ≤ (w.alloc (.cells #[.string ⟨#[100, 97, 116, 97]⟩, .int .i64 0, .int .i64 0, .string (bs d)] 106)).heap.size) := by show _ ≤ _; have := HR.out.lt; simp; omega
      go_enter Tryz.func155, Tryz.ntmps155
      go_wp2_with (at_builtin; refine wpList_append_own _ rfl _ _ 100 rfl (b + 1) 106 i0 _ 4 48 Tryz.underlying100 hi hz0 hz1 hz2 rfl (by decide) _ _ _ rfl (OWN.out.alloc _) ⟨w.heap.size, 0, none⟩ 1 1 [.string ⟨#[100, 97, 116, 97]⟩, .int .i64 0, .int .i64 0, .string (bs d)] rfl rfl (four_news (heap_alloc_new w _)) (fun u hu => NEWC.out u hu) HM1.out HM2.out HM3.out ?_; intro v' w3 hown' hgrow _; obtain ⟨A', q', rfl⟩ := owns_sl hown'; have fb := MRaw.fg WR.out hgrow; have cb := MRaw.cg WR.out hgrow)
      have T := MRaw.tail (p := ⟨kData, 0, 0, d⟩) WR.out (by rw [dataVals, HLN.out]; exact hown') hgrow
      go_returns
      exact ⟨rfl, T.1, by first | exact T.2 | exact below_undrew T.2⟩
end Go.Proofs.YtppkeophochgiaaGreatDoor
/- Plain laws: a file's blocks are well; a signature is read as it was written; each block is found. -/
namespace Go.Proofs.YtppkeophochgiaaGreatDoor
open Go.RowKit

theorem blks_get (size : Nat) (L : List UInt8) (k : Nat) (h : k < (blks size L).length) : (blks size L)[k] = blk ((L.drop (k * size)).take size) := by
  have hk : k < cntOf size L.length := by rw [← blks_len]; exact h
  have h2 : (blks size L)[k]? = some (blk ((L.drop (k * size)).take size)) := by unfold blks blksN; rw [List.getElem?_map, List.getElem?_range hk]; rfl
  exact (List.getElem_eq_iff h).2 h2
theorem cnt_lt {size len k : Nat} (hs : 0 < size) (h : k < cntOf size len) : k * size < len := by
  unfold cntOf at h
  have h1 := (Nat.le_div_iff_mul_le hs).1 (show k + 1 ≤ (len + size - 1) / size by omega)
  rw [Nat.add_mul] at h1
  omega
/-- where a block begins -/
def offN (size len k : Nat) : Nat := if k * size ≤ len then k * size else len
theorem offN_lt {size len k : Nat} (hs : 0 < size) (h : k < cntOf size len) : offN size len k = k * size := by
  have := cnt_lt hs h; unfold offN; rw [if_pos (by omega)]
theorem blkN (size : Nat) (L : List UInt8) (k : Nat) (hs : 0 < size) (h : k < cntOf size L.length) :
    (blk ((L.drop (k * size)).take size)).N = ((offN size L.length (k + 1) - offN size L.length k : Nat) : Int) ∧ 1 ≤ offN size L.length (k + 1) - offN size L.length k ∧ offN size L.length (k + 1) - offN size L.length k ≤ size ∧
      offN size L.length k ≤ offN size L.length (k + 1) ∧ offN size L.length (k + 1) ≤ L.length ∧ (k + 1 ≠ cntOf size L.length → offN size L.length (k + 1) - offN size L.length k = size) := by
  have h1 := cnt_lt hs h
  have h2 := offN_lt (len := L.length) hs h
  have h3 : (k + 1) * size = k * size + size := by rw [Nat.add_mul]; omega
  have h4 : k + 1 ≠ cntOf size L.length → (k + 1) * size ≤ L.length := fun hne => by
    have := cnt_lt (size := size) (len := L.length) (k := k + 1) hs (by omega); omega
  rw [h2]
  rw [blk_is]
  simp only [List.length_take, List.length_drop]
  unfold offN
  rw [h3] at h4 ⊢
  split
  · refine ⟨by omega, by omega, by omega, by omega, by omega, fun _ => by omega⟩
  · refine ⟨by omega, by omega, by omega, by omega, by omega, fun h => by have := h4 h; omega⟩

theorem blks_chk (size : Nat) (L : List UInt8) (h1 : 1 ≤ size) (h2 : size ≤ 64) (hL : L.length ≤ 4000) : chk (blks size L) size = (0, -1) := by
  rw [chk_yes (by omega)]
  have H : ∀ j k, k + j = (blks size L).length → chkA size ((blks size L).drop k) k (offN size L.length k) = (0, -1) := by
    intro j
    induction j with
    | zero => intro k hk; exact chkA_end (by omega)
    | succ j ih =>
      intro k hk
      have hlt : k < (blks size L).length := by omega
      have hc : k < cntOf size L.length := by rw [← blks_len]; exact hlt
      obtain ⟨q1, q2, q3, q4, q5, q6⟩ := blkN size L k h1 hc
      have hb := blks_get size L k hlt
      have hw := ws_bd ((L.drop (k * size)).take size)
      have hN : ((blks size L)[k]).N = ((offN size L.length (k + 1) - offN size L.length k : Nat) : Int) := by rw [hb]; exact q1
      have hW : ((blks size L)[k]).W = ws ((L.drop (k * size)).take size) := by rw [hb, blk_is]
      rw [chkA_next hlt]
      · have := ih (k + 1) (by omega)
        rw [hN]
        have e : (offN size L.length k : Int) + ((offN size L.length (k + 1) - offN size L.length k : Nat) : Int) = (offN size L.length (k + 1) : Int) := by omega
        rw [e]; exact this
      · intro hbad
        unfold badB at hbad
        rw [hN, hW] at hbad
        rw [blks_len] at hbad
        rcases hbad with h | h | ⟨h, h'⟩ | h | h
        · omega
        · omega
        · have := q6 (by simp at h'; omega); omega
        · omega
        · omega
      · rw [hN]; omega
  have := H (blks size L).length 0 (by omega)
  simpa [offN] using this
theorem blks_S (size : Nat) (L : List UInt8) : ∀ b ∈ blks size L, b.S < 4294967296 := by
  intro b hb
  obtain ⟨k, hk, rfl⟩ := List.getElem_of_mem hb
  rw [blks_get, blk_is]
  exact csum_lt _

theorem rdBlk_text (b : Blk) (more : List UInt8) (h : 1 ≤ b.N ∧ b.N ≤ 64 ∧ 0 ≤ b.W ∧ b.W < 4294967296) (hS : b.S < 4294967296) : rdBlk (num b.N.toNat ++ num b.W.toNat ++ num b.S ++ more) = (b, more, 0) := by
  have e : num b.N.toNat ++ num b.W.toNat ++ num b.S ++ more = num b.N.toNat ++ (num b.W.toNat ++ (num b.S ++ more)) := by simp
  rw [e]
  obtain ⟨p1, p2, p3⟩ := rd_num b.N.toNat (num b.W.toNat ++ (num b.S ++ more)) (by omega)
  obtain ⟨q1, q2, q3⟩ := rd_num b.W.toNat (num b.S ++ more) (by omega)
  obtain ⟨r1, r2, r3⟩ := rd_num b.S more (by omega)
  rw [rdBlk_is _ _ _ _ _ p2 p3 q2 q3, p1, q1, r1, r2, r3]
  rw [if_neg (by omega)]
  have e1 : ((b.N.toNat : Nat) : Int) = b.N := by omega
  have e2 : ((b.W.toNat : Nat) : Int) = b.W := by omega
  have e3 : b.S % 4294967296 = b.S := by omega
  rw [e1, e2, e3]
theorem rdLoop_text : ∀ (l : List Blk) (out : List Blk) (more : List UInt8), (∀ b ∈ l, 1 ≤ b.N ∧ b.N ≤ 64 ∧ 0 ≤ b.W ∧ b.W < 4294967296) → (∀ b ∈ l, b.S < 4294967296) → rdLoop l.length (bText l ++ more) 0 out = (out ++ l, more, 0)
  | [], out, more, _, _ => by simp [bText_nil, rdLoop_end]
  | b :: l, out, more, h, hS => by
    rw [bText_cons, List.append_assoc]
    rw [rdLoop_step (by simp), rdBlk_text b _ (h b (by simp)) (hS b (by simp))]
    simp only [List.length_cons, Nat.add_sub_cancel]
    rw [rdLoop_text l _ more (fun x hx => h x (by simp [hx])) (fun x hx => hS x (by simp [hx]))]
    simp
theorem read_text (l : List Blk) (size : Nat) (hc : (chk l size).1 = 0) (hS : ∀ b ∈ l, b.S < 4294967296) : readSg (sText l size) = (l, size, 0) := by
  obtain ⟨k1, k2, k3, k4⟩ := chk_ok hc
  have e : sText l size = num size ++ (num l.length ++ (bText l ++ [])) := by rw [sText_is]; simp
  obtain ⟨p1, p2, p3⟩ := rd_num size (num l.length ++ (bText l ++ [])) (by omega)
  obtain ⟨q1, q2, q3⟩ := rd_num l.length (bText l ++ []) (by omega)
  have hr : rd0 (sText l size) = (l, [], 0) := by
    rw [e, rd0_is p2 p3 q2 q3, q1, rdLoop_text l [] [] (fun b hb => by have := k4 b hb; omega) hS]; simp
  have hn : rnN (sText l size) 0 = size := by rw [e]; exact p1
  have := readSg_ok hr rEnd_nil (by rw [hn]; exact hc)
  rw [this, hn]

end Go.Proofs.YtppkeophochgiaaGreatDoor
/- Contract of delta.Make: what is new. -/
namespace Go.Proofs.YtppkeophochgiaaGreatDoor
open Go.RowKit
set_option linter.unusedVariables false

/-- ops of the rest of a file -/
def mkA (l : List Blk) (size : Nat) : Nat → List UInt8 → List POp → List POp
  | 0, _, out => out
  | f + 1, s, out => if s = [] then out else
      if 0 ≤ findI l (blk (s.take size)) then mkA l size f (s.drop size) (addCopy out (findI l (blk (s.take size))))
      else mkA l size f (s.drop 1) (addData out (s.take 1))
def mkOps (l : List Blk) (size : Nat) (s : List UInt8) : List POp := mkA l size s.length s []
theorem mkA_end (l : List Blk) (size f : Nat) (out : List POp) : mkA l size f [] out = out := by cases f <;> simp [mkA]
theorem mkA_copy {l : List Blk} {size f : Nat} {s : List UInt8} {out : List POp} (hs : s ≠ []) (h : 0 ≤ findI l (blk (s.take size))) :
    mkA l size (f + 1) s out = mkA l size f (s.drop size) (addCopy out (findI l (blk (s.take size)))) := by rw [mkA, if_neg hs, if_pos h]
theorem mkA_data {l : List Blk} {size f : Nat} {s : List UInt8} {out : List POp} (hs : s ≠ []) (h : ¬ 0 ≤ findI l (blk (s.take size))) :
    mkA l size (f + 1) s out = mkA l size f (s.drop 1) (addData out (s.take 1)) := by rw [mkA, if_neg hs, if_neg h]
attribute [irreducible] mkA
/-- ops that are well, of i bytes -/
def OkOp (o : POp) (i : Nat) : Prop := (o.kind = kCopy ∧ o.data = [] ∧ 0 ≤ o.a ∧ o.a ≤ 4000 ∧ 1 ≤ o.n ∧ o.n ≤ i) ∨ (o.kind = kData ∧ o.a = 0 ∧ o.n = 0 ∧ 1 ≤ o.data.length ∧ o.data.length ≤ i)
def OkOut (out : List POp) (i : Nat) : Prop := out.length ≤ i ∧ costN out ≤ i ∧ ∀ o ∈ out, OkOp o i
theorem OkOp.mono {o : POp} {i j : Nat} (h : OkOp o i) (hj : i ≤ j) : OkOp o j := by
  rcases h with ⟨h1, h2, h3, h4, h5, h6⟩ | ⟨h1, h2, h3, h4, h5⟩
  · exact .inl ⟨h1, h2, h3, h4, h5, by omega⟩
  · exact .inr ⟨h1, h2, h3, h4, by omega⟩
theorem OkOut.nil (i : Nat) : OkOut [] i := ⟨by simp, by rw [costN_nil]; omega, by simp⟩
theorem OkOut.mono {out : List POp} {i j : Nat} (h : OkOut out i) (hj : i ≤ j) : OkOut out j := ⟨by have := h.1; omega, by have := h.2.1; omega, fun o ho => (h.2.2 o ho).mono hj⟩
theorem OkOut.copy {out : List POp} {i : Nat} {k : Int} (h : OkOut out i) (hk : 0 ≤ k ∧ k ≤ 4000) : OkOut (addCopy out k) (i + 1) := by
  obtain ⟨h1, h2, h3⟩ := h
  have hnew : OkOp ⟨kCopy, k, 1, []⟩ (i + 1) := .inl ⟨rfl, rfl, hk.1, hk.2, by simp, by simp only []; omega⟩
  rcases split_last out with rfl | ⟨m, o, rfl⟩
  · rw [addCopy_nil]
    exact ⟨by simp, by rw [costN_append, costN_nil, costN_one]; simp, fun o ho => by simp at ho; subst ho; exact hnew⟩
  · by_cases hc : o.kind = kCopy ∧ o.a + o.n = k
    · rw [addCopy_more m o k hc]
      refine ⟨by simp at h1 ⊢; omega, by rw [costN_append, costN_one] at h2 ⊢; simp only []; omega, fun x hx => ?_⟩
      rcases List.mem_append.1 hx with hx | hx
      · exact (h3 x (by simp [hx])).mono (by omega)
      · simp at hx; subst hx
        rcases h3 o (by simp) with ⟨g1, g2, g3, g4, g5, g6⟩ | ⟨g1, _⟩
        · exact .inl ⟨g1, g2, g3, g4, by simp only []; omega, by simp only []; omega⟩
        · rw [hc.1] at g1; exact absurd g1.symm kne
    · rw [addCopy_new m o k hc]
      refine ⟨by simp at h1 ⊢; omega, by rw [costN_append, costN_one]; simp only [List.length_nil]; omega, fun x hx => ?_⟩
      rcases List.mem_append.1 hx with hx | hx
      · exact (h3 x hx).mono (by omega)
      · simp at hx; subst hx; exact hnew
theorem OkOut.data {out : List POp} {i : Nat} {d : List UInt8} (h : OkOut out i) (hd : d.length = 1) : OkOut (addData out d) (i + 1) := by
  obtain ⟨h1, h2, h3⟩ := h
  have hnew : OkOp ⟨kData, 0, 0, d⟩ (i + 1) := .inr ⟨rfl, rfl, rfl, by simp only []; omega, by simp only []; omega⟩
  rcases split_last out with rfl | ⟨m, o, rfl⟩
  · rw [addData_nil]
    exact ⟨by simp, by rw [costN_append, costN_nil, costN_one]; simp only []; omega, fun o ho => by simp at ho; subst ho; exact hnew⟩
  · by_cases hc : o.kind = kData
    · rw [addData_more m o d hc]
      refine ⟨by simp at h1 ⊢; omega, by rw [costN_append, costN_one] at h2 ⊢; simp only [List.length_append]; omega, fun x hx => ?_⟩
      rcases List.mem_append.1 hx with hx | hx
      · exact (h3 x (by simp [hx])).mono (by omega)
      · simp at hx; subst hx
        rcases h3 o (by simp) with ⟨g1, _⟩ | ⟨g1, g2, g3, g4, g5⟩
        · rw [hc] at g1; exact absurd g1 kne
        · exact .inr ⟨g1, g2, g3, by simp only [List.length_append]; omega, by simp only [List.length_append]; omega⟩
    · rw [addData_new m o d hc]
      refine ⟨by simp at h1 ⊢; omega, by rw [costN_append, costN_one]; simp only []; omega, fun x hx => ?_⟩
      rcases List.mem_append.1 hx with hx | hx
      · exact (h3 x hx).mono (by omega)
      · simp at hx; subst hx; exact hnew
theorem OkOut.bounds {out : List POp} {i : Nat} (h : OkOut out i) (hi : i ≤ 4000) : out.length ≤ 1000000 ∧ ∀ o ∈ out, 0 ≤ o.a ∧ o.a ≤ 1000000 ∧ 0 ≤ o.n ∧ o.n ≤ 1000000 ∧ o.data.length ≤ 1000000 := by
  refine ⟨by have := h.1; omega, fun o ho => ?_⟩
  rcases h.2.2 o ho with ⟨g1, g2, g3, g4, g5, g6⟩ | ⟨g1, g2, g3, g4, g5⟩
  · rw [g2]; refine ⟨g3, by omega, by omega, by omega, by simp⟩
  · rw [g2, g3]; refine ⟨by omega, by omega, by omega, by omega, by omega⟩
theorem OkOut.chk {out : List POp} {i : Nat} (h : OkOut out i) (hi : i ≤ 4000) : ∀ o ∈ out, opC o = 0 := by
  intro o ho
  rcases h.2.2 o ho with ⟨g1, g2, g3, g4, g5, g6⟩ | ⟨g1, g2, g3, g4, g5⟩
  · exact opC_fine g1 g2 ⟨⟨g3, g4⟩, g5, by omega⟩
  · exact opD_fine (by rw [g1]; exact kne) g1 ⟨g2, g3⟩ ⟨g4, by omega⟩
theorem findB_bd : ∀ (l : List Blk) (x : Blk) (i : Nat), -1 ≤ findB l x i ∧ findB l x i < (i + l.length : Nat) ∧ (0 ≤ findB l x i → ∃ j, ∃ h : j < l.length, findB l x i = (i + j : Nat) ∧ l[j] = x)
  | [], x, i => by
    have e : findB ([] : List Blk) x i = -1 := by have := findB_end [] x i (by simp); simpa using this
    rw [e]; simp; omega
  | b :: l, x, i => by
    rw [findB_cons]
    split
    · rename_i h
      exact ⟨by omega, by simp; omega, fun _ => ⟨0, by simp, by simp, h⟩⟩
    · obtain ⟨h1, h2, h3⟩ := findB_bd l x (i + 1)
      refine ⟨h1, by simp; omega, fun h => ?_⟩
      obtain ⟨j, hj, e1, e2⟩ := h3 h
      exact ⟨j + 1, by simpa using hj, by rw [e1]; omega, by simpa using e2⟩
theorem findI_bd (l : List Blk) (x : Blk) : -1 ≤ findI l x ∧ findI l x < l.length := by
  have := findB_bd l x 0
  unfold findI; omega
theorem sub_part (s : ByteArray) (i k e : Nat) (hk : e = i + k) : (s.extract i e).data.toList = (s.data.toList.drop i).take k := by
  subst hk
  simp [List.extract_eq_take_drop]

set_option maxRecDepth 100000 in
set_option maxHeartbeats 3200000 in
theorem make_any (E : Nat → Addr) (s0 : Option Addr) (n0 c0 : Nat) (l : List Blk) (size : Int) (s : ByteArray) (w : World) (hl : SliceIs w (.slice s0 n0 c0) 3 (bcells l)) (hB : Has E w 2) (hF : Has E w 8)
    (hck : (chk l size).1 = 0) (hs : s.size ≤ 4000) :
    Calls Tryz.prog 112 #[.slice s0 n0 c0, .int .i64 size, .string s] w fun e w' => ∃ v, e = .returned (.tuple #[v, .nilIface]) ∧
      w'.ownsRow w.heap.size 106 4 v (mkOps l size.toNat s.data.toList).length (ocells (mkOps l size.toNat s.data.toList)) ∧ Below w.heap.size w w' := by
  obtain ⟨z1, z2, z3, _⟩ := chk_ok hck
  obtain ⟨z, rfl⟩ : ∃ z : Nat, size = z := ⟨size.toNat, by omega⟩
  rw [Int.toNat_natCast]
  have hlen : l.length = n0 := by
    obtain ⟨s0', n0', c0', e1, e2, _, _, _⟩ := hl.get
    cases e1
    rw [bcells_len] at e2; omega
  have CK := check_any E s0 n0 c0 l z w hl hB hF
  rw [hck] at CK
  have HCK := Lib.hid CK
  have HLS := Lib.hid hl
  have hLl : s.data.toList.length = s.size := by simp
  have HM : Hid (mkOps l z s.data.toList = mkA l z s.size (s.data.toList.drop 0) []) := by
    show _ = _
    unfold mkOps
    rw [hLl]; rfl
  have hsI : ¬ (4000 : Int) < s.size := by omega
  have hz1 : 1 ≤ z := by omega
  have hz2 : z ≤ 64 := by omega
  have HLEN := Lib.hid hLl
  clear CK hck hl hB hF z1 z2 hLl
  go_enter Tryz.func112, Tryz.ntmps112
  go_wp2_with fail
  refine HCK.out.mono ?_
  rintro e w1 ⟨v1, rfl, fe, b1⟩
  rw [fe.zero]
  clear fe
  have M0 := MAt.new w1
  have bA := b1.alloc b1.size (.cells #[.slice none 0 0] 244)
  have hb : w.heap.size ≤ w1.heap.size := b1.size
  go_wp2_with fail
  generalize w1.alloc (.cells #[.slice none 0 0] 244) = w2 at M0 bA ⊢
  generalize w1.heap.size = b at M0 hb ⊢
  clear b1
  go_loopw [10, 11, 12] (fun i _ _ wr => ∃ (k f : Nat) (out : List POp), i = .int .i64 k ∧ k ≤ s.size ∧ s.size ≤ k + f ∧ OkOut out k ∧ mkOps l z s.data.toList = mkA l z f (s.data.toList.drop k) out ∧ MAt wr b out ∧ Below w.heap.size w wr) (fun i _ _ _ => s.size - (intOf i).toNat)
  case atStart => exact ⟨0, s.size, [], rfl, by omega, by omega, OkOut.nil 0, HM.out, M0, bA⟩
  case round =>
    clear M0 bA
    obtain ⟨k, f, out, rfl, hk, hf, hok, hm, M, bel⟩ := hrel
    have HMM := Lib.hid hm
    have HOK := Lib.hid hok
    obtain ⟨hb1, hb2⟩ := hok.bounds (by omega)
    have HB2 := Lib.hid hb2
    clear hm hok hb2
    by_cases hlt : k < s.size
    · have hltI : (k : Int) < s.size := by omega
      obtain ⟨g, rfl⟩ : ∃ g, f = g + 1 := ⟨f - 1, by omega⟩
      have hne : s.data.toList.drop k ≠ [] := by
        intro e
        have := congrArg List.length e
        simp at this; omega
      have HC := Lib.hid (fun h => HMM.out.trans (mkA_copy (l := l) (size := z) (f := g) (out := out) hne h))
      have HD := Lib.hid (fun h => HMM.out.trans (mkA_data (l := l) (size := z) (f := g) (out := out) hne h))
      clear hne
      rw [List.drop_drop] at HC HD
      obtain ⟨j, hj, hj1, hj2⟩ : ∃ j : Nat, ((z : Int) ≤ (s.size : Int) - k ∧ j = z ∨ (s.size : Int) - k < z ∧ j = s.size - k) ∧ 1 ≤ j ∧ k + j ≤ s.size := by
        by_cases h : (z : Int) ≤ (s.size : Int) - k
        · exact ⟨z, .inl ⟨h, rfl⟩, hz1, by omega⟩
        · exact ⟨s.size - k, .inr ⟨by omega, rfl⟩, by omega, by omega⟩
      have HX : Hid ((s.extract k (k + j)).data.toList = (s.data.toList.drop k).take z) := by
        show _ = _
        rw [sub_part s k j (k + j) rfl]
        rcases hj with ⟨_, h⟩ | ⟨h0, h⟩
        · rw [h]
        · rw [List.take_of_length_le (by simp; omega), List.take_of_length_le (by simp; omega)]
      have HX1 : Hid (s.extract k (k + 1) = bs ((s.data.toList.drop k).take 1)) := eq_bs (sub_part s k 1 (k + 1) rfl)
      have HDR : Hid (s.data.toList.drop (k + z) = s.data.toList.drop (k + j)) := by
        show _ = _
        rcases hj with ⟨_, h⟩ | ⟨h0, h⟩
        · rw [h]
        · rw [List.drop_eq_nil_of_le (by simp; omega), List.drop_eq_nil_of_le (by simp; omega)]
      have FI := find_any s0 n0 c0 l (s.extract k (k + j)) wr (by simp; omega) (HLS.out.below bel)
      rw [HX.out] at FI
      have hfb := findI_bd l (blk ((s.data.toList.drop k).take z))
      generalize findI l (blk ((s.data.toList.drop k).take z)) = fi at FI HC HD hfb
      have HFI := Lib.hid FI
      have x1 : (0 : Int) ≤ k := by omega
      have x2 : (k : Int) ≤ (k : Int) + j := by omega
      have x3 : (k : Int) + j ≤ s.size := by omega
      have x4 : ((k : Int) + j).toNat = k + j := by omega
      have x5 : (k : Int) ≤ (k : Int) + 1 := by omega
      have x6 : (k : Int) + 1 ≤ s.size := by omega
      have x7 : ((k : Int) + 1).toNat = k + 1 := by omega
      clear FI
      have hj' : ((z : Int) ≤ (s.size : Int) - k ∧ j = z) ∨ ((s.size : Int) - k < z ∧ Value.int .i64 ((s.size : Int) - k) = Value.int .i64 j) := by
        rcases hj with ⟨h1, h2⟩ | ⟨h1, h2⟩
        · exact .inl ⟨h1, h2⟩
        · exact .inr ⟨h1, by congr 1; omega⟩
      clear hj
      rcases hj' with ⟨h, rfl⟩ | ⟨h, e3⟩
      all_goals
        by_cases hfi : 0 ≤ fi
        · have HC' := Lib.hid (HC.out hfi)
          clear HC HD
          go_wp2_with fail
          refine HFI.out.mono ?_
          rintro e w3 ⟨rfl, b3⟩
          have M3 := M.below b3
          have bel3 := below_trans' bel b3
          clear b3 M bel HFI
          go_wp2_with fail
          refine (mcopy_any b out fi w3 M3 hb1 HB2.out (by omega)).mono ?_
          rintro e w4 ⟨rfl, M4, b4⟩
          have bel4 := bel3.trans (b4.mono hb)
          clear b4 M3 bel3
          have REL := Lib.hid (HC'.out)
          try rw [HDR.out] at REL
          have HOK' := Lib.hid ((HOK.out.copy (k := fi) (by omega)).mono (show k + 1 ≤ k + j by omega))
          have HK' := Lib.hid (show k + j ≤ s.size ∧ s.size ≤ k + j + g by omega)
          go_wp2_with fail
          go_roundw
          case rel => exact ⟨k + j, g, _, by go_num, HK'.out.1, HK'.out.2, HOK'.out, REL.out, M4, bel4⟩
          case measure => simp [intOf]; omega
        · have HD' := Lib.hid (HD.out hfi)
          clear HC HD
          go_wp2_with fail
          refine HFI.out.mono ?_
          rintro e w3 ⟨rfl, b3⟩
          have M3 := M.below b3
          have bel3 := below_trans' bel b3
          clear b3 M bel HFI
          go_wp2_with fail
          have MD := mdata_any b out ((s.data.toList.drop k).take 1) w3 M3 hb1 HB2.out (by simp; omega)
          rw [← HX1.out] at MD
          refine MD.mono ?_
          rintro e w4 ⟨rfl, M4, b4⟩
          have bel4 := bel3.trans (b4.mono hb)
          clear b4 M3 bel3 MD
          have HOK' := Lib.hid (HOK.out.data (d := (s.data.toList.drop k).take 1) (by simp; omega))
          have HK' := Lib.hid (show k + 1 ≤ s.size ∧ s.size ≤ k + 1 + g by omega)
          go_wp2_with fail
          go_roundw
          case rel => exact ⟨k + 1, g, _, by go_num, HK'.out.1, HK'.out.2, HOK'.out, HD'.out, M4, bel4⟩
          case measure => simp [intOf]; omega
    · have hltI : ¬ (k : Int) < s.size := by omega
      have hdn : s.data.toList.drop k = [] := List.drop_eq_nil_of_le (by simp; omega)
      have HME := HMM.out
      rw [hdn, mkA_end] at HME
      obtain ⟨v, hv⟩ := M
      have c0 := hv.c0
      have HOWN := Lib.hid (owns_mono hv.2 (show w.heap.size ≤ b + 1 by omega))
      have HE := Lib.hid HME
      clear HME hdn hv
      go_wp2_with fail
      go_ret2
      exact ⟨v, rfl, by rw [HE.out]; exact HOWN.out, bel⟩
end Go.Proofs.YtppkeophochgiaaGreatDoor
