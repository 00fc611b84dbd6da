/- Contracts of delta's maker: copy, data. -/
import Derived.Test.YtkhjhbgoccljfaaDoorOps2
namespace Go.Proofs.YtkhjhbgoccljfaaDoor
open Go.RowKit
set_option linter.unusedVariables false

def addCopy (l : List POp) (k : Int) : List POp :=
  match l.getLast? with
  | none => l ++ [⟨kCopy, k, 1, []⟩]
  | some o => if o.kind = kCopy ∧ o.a + o.n = k then l.dropLast ++ [⟨o.kind, o.a, o.n + 1, o.data⟩] else l ++ [⟨kCopy, k, 1, []⟩]
def addData (l : List POp) (d : List UInt8) : List POp :=
  match l.getLast? with
  | none => l ++ [⟨kData, 0, 0, d⟩]
  | some o => if o.kind = kData then l.dropLast ++ [⟨o.kind, o.a, o.n, o.data ++ d⟩] else l ++ [⟨kData, 0, 0, d⟩]
theorem addCopy_nil (k : Int) : addCopy [] k = [] ++ [⟨kCopy, k, 1, []⟩] := rfl
theorem addCopy_more (m : List POp) (o : POp) (k : Int) (h : o.kind = kCopy ∧ o.a + o.n = k) : addCopy (m ++ [o]) k = m ++ [⟨o.kind, o.a, o.n + 1, o.data⟩] := by unfold addCopy; simp [h]
theorem addCopy_new (m : List POp) (o : POp) (k : Int) (h : ¬ (o.kind = kCopy ∧ o.a + o.n = k)) : addCopy (m ++ [o]) k = (m ++ [o]) ++ [⟨kCopy, k, 1, []⟩] := by
  unfold addCopy
  rw [List.getLast?_append]
  simp only [List.getLast?_singleton, Option.some_or]
  rw [if_neg h]
theorem addData_nil (d : List UInt8) : addData [] d = [] ++ [⟨kData, 0, 0, d⟩] := rfl
theorem addData_more (m : List POp) (o : POp) (d : List UInt8) (h : o.kind = kData) : addData (m ++ [o]) d = m ++ [⟨o.kind, o.a, o.n, o.data ++ d⟩] := by unfold addData; simp [h]
theorem addData_new (m : List POp) (o : POp) (d : List UInt8) (h : o.kind ≠ kData) : addData (m ++ [o]) d = (m ++ [o]) ++ [⟨kData, 0, 0, d⟩] := by
  unfold addData
  rw [List.getLast?_append]
  simp only [List.getLast?_singleton, Option.some_or]
  rw [if_neg h]
attribute [irreducible] addCopy addData

/-- a maker at block b -/
def MRaw (w : World) (b : Nat) (v : Value) (l : List POp) : Prop := w.heap[b]? = some (.cells #[v] 111 (0, 0)) ∧ w.ownsRow (b + 1) 67 4 v l.length (ocells l)
def MAt (w : World) (b : Nat) (l : List POp) : Prop := ∃ v, MRaw w b v l
theorem MRaw.lt {w : World} {b : Nat} {v : Value} {l : List POp} (h : MRaw w b v l) : b < w.heap.size := lt_of_block h.1
theorem MAt.lt {w : World} {b : Nat} {l : List POp} (h : MAt w b l) : b < w.heap.size := by obtain ⟨v, h⟩ := h; exact h.lt
theorem MRaw.c0 {w : World} {b : Nat} {v : Value} {l : List POp} (h : MRaw w b v l) : w.cell? ⟨b, 0, none⟩ = some v := by have := h.1; simp [World.cell?, this]
theorem MRaw.below {w w' : World} {b : Nat} {v : Value} {l : List POp} (h : MRaw w b v l) (hb : Below w.heap.size w w') : MRaw w' b v l :=
  ⟨(hb.block b h.lt).trans h.1, owns_below h.2 hb⟩
theorem MAt.below {w w' : World} {b : Nat} {l : List POp} (h : MAt w b l) (hb : Below w.heap.size w w') : MAt w' b l := by obtain ⟨v, h⟩ := h; exact ⟨v, h.below hb⟩
theorem MAt.new (w : World) : MAt (w.alloc (.cells #[.slice none 0 0] 111)) w.heap.size [] :=
  ⟨.slice none 0 0, heap_alloc_new _ _, by rw [ocells_nil]; exact World.ownsRow_nil _ _ _ _⟩
theorem MRaw.grown {w w' : World} {o : Obj} {b : Nat} {v : Value} {l : List POp} (h : MRaw w b v l) (hg : (w.alloc o).grownBy w' v.ownBlock) : w'.heap[b]? = some (.cells #[v] 111 (0, 0)) :=
  (hg.block b (by have := h.lt; simp; omega) (fun e => by have := h.2.lt b e.symm; omega)).trans ((Below.heap_alloc w o b h.lt).trans h.1)
theorem MRaw.cg {w w' : World} {o : Obj} {b : Nat} {v : Value} {l : List POp} (h : MRaw w b v l) (hg : (w.alloc o).grownBy w' v.ownBlock) : w'.cell? ⟨b, 0, none⟩ = some v := by simp [World.cell?, h.grown hg]
theorem MRaw.fg {w w' : World} {o : Obj} {b : Nat} {v : Value} {l : List POp} (h : MRaw w b v l) (hg : (w.alloc o).grownBy w' v.ownBlock) : w'.frozen? ⟨b, 0, none⟩ = false := by simp [World.frozen?, h.grown hg]
theorem MRaw.tail {w w' : World} {o : Obj} {b : Nat} {v v' : Value} {l : List POp} {p : POp} (h : MRaw w b v l) (h1 : w'.ownsRow (b + 1) 67 4 v' (l.length + 1) (ocells l ++ p.vals)) (hg : (w.alloc o).grownBy w' v.ownBlock) :
    MAt (w'.setCell ⟨b, 0, none⟩ v') b (l ++ [p]) ∧ Below b w (w'.setCell ⟨b, 0, none⟩ v') := by
  refine ⟨⟨v', set_at (h.grown hg), ?_⟩, ((((Below.refl b w).alloc (Nat.le_of_lt h.lt) o).grown hg (by have := h.lt; simp; omega) (fun k hk => by have := h.2.lt k hk; omega)).setCell (p := ⟨b, 0, none⟩) (Nat.le_refl _) _)⟩
  have := ownsRow_setCell_below h1 (a := ⟨b, 0, none⟩) (Nat.lt_succ_self b) v'
  rw [ocells_append, ocells_one, List.length_append]
  exact this
theorem four_news {w : World} {b : Nat} {u0 u1 u2 u3 : Value} (h : w.heap[b]? = some (.cells #[u0, u1, u2, u3] 67 (0, 0))) : ∀ j u', [u0, u1, u2, u3][j]? = some u' → w.cell? ((⟨b, 0, none⟩ : Addr).add j) = some u' := by
  intro j u' hj
  match j, hj with
  | 0, hj => simp at hj; subst hj; simp [World.cell?, h, Addr.add]
  | 1, hj => simp at hj; subst hj; simp [World.cell?, h, Addr.add]
  | 2, hj => simp at hj; subst hj; simp [World.cell?, h, Addr.add]
  | 3, hj => simp at hj; subst hj; simp [World.cell?, h, Addr.add]

theorem split_last (l : List POp) : l = [] ∨ ∃ m o, l = m ++ [o] := by
  rcases List.eq_nil_or_concat l with h | ⟨m, o, h⟩
  · exact .inl h
  · exact .inr ⟨m, o, by simpa using h⟩
/-- the last op's cells -/
theorem MRaw.last {w : World} {b : Nat} {v : Value} {m : List POp} {o : POp} (h : MRaw w b v (m ++ [o])) : ∃ g cap, v = .slice (some ⟨g, 0, none⟩) (m.length + 1) cap ∧ b < g ∧ m.length + 1 ≤ cap ∧ cap ≤ maxLen ∧ w.cell? ⟨g, m.length * 4, none⟩ = some (.string (bs o.kind)) ∧ w.cell? ⟨g, m.length * 4 + 1, none⟩ = some (.int .i64 o.a) ∧
    w.cell? ⟨g, m.length * 4 + 2, none⟩ = some (.int .i64 o.n) ∧ w.cell? ⟨g, m.length * 4 + 3, none⟩ = some (.string (bs o.data)) ∧ (∀ j, w.frozen? ⟨g, j, none⟩ = false) := by
  obtain ⟨g, cap, hv, hg, _, h3, h4, hc, hf⟩ := owns_open h.2 (by simp)
  obtain ⟨g0, g1, g2, g3⟩ := ocells_get (m ++ [o]) m.length (by simp)
  simp only [List.getElem_append_right (Nat.le_refl _), Nat.sub_self, List.getElem_singleton] at g0 g1 g2 g3
  exact ⟨g, cap, by rw [hv]; simp, by omega, by simpa using h3, h4, hc _ _ g0, hc _ _ g1, hc _ _ g2, hc _ _ g3, hf⟩

theorem below_undrew {b n : Nat} {w w' : World} (h : Below b (w.drewN n) w') : Below b w w' := ⟨h.os, h.tape, h.output, h.size, h.block⟩
theorem MRaw.store {w : World} {b g cap : Nat} {m : List POp} {o p : POp} (j : Nat) (u : Value) (h : MRaw w b (.slice (some ⟨g, 0, none⟩) (m.length + 1) cap) (m ++ [o])) (hj : j < 4) (hp : o.vals.set j u = p.vals) :
    MAt (w.setCell ⟨g, m.length * 4 + j, none⟩ u) b (m ++ [p]) ∧ Below b w (w.setCell ⟨g, m.length * 4 + j, none⟩ u) := by
  have hn : (m ++ [o]).length = m.length + 1 := by simp
  have ho := h.2
  rw [hn] at ho
  have hg := ho.lt g rfl
  have hs := ho.stored (m.length * 4 + j) u
  have hc : (ocells (m ++ [o])).set (m.length * 4 + j) u = ocells (m ++ [p]) := by
    rw [ocells_append, ocells_append, ocells_one, ocells_one, List.set_append_right _ _ (by rw [ocells_len]; omega), ocells_len, Nat.add_sub_cancel_left, hp]
  refine ⟨⟨.slice (some ⟨g, 0, none⟩) (m.length + 1) cap, ?_, ?_⟩, (Below.refl b w).setCell (p := ⟨g, m.length * 4 + j, none⟩) (by show b ≤ g; omega) u⟩
  · exact (Below.heap_setCell w ⟨g, m.length * 4 + j, none⟩ u b (by show b ≠ g; omega)).trans h.1
  · rw [show (m ++ [p]).length = m.length + 1 by simp, ← hc]; exact hs.1
theorem copyVals (k : Int) : POp.vals ⟨kCopy, k, 1, []⟩ = [.string ⟨#[99, 111, 112, 121]⟩, .int .i64 k, .int .i64 1, .string ⟨#[]⟩] := by simp only [POp.vals, bs_kCopy, bs_nil]
theorem dataVals (d : List UInt8) : POp.vals ⟨kData, 0, 0, d⟩ = [.string ⟨#[100, 97, 116, 97]⟩, .int .i64 0, .int .i64 0, .string (bs d)] := by simp only [POp.vals, bs_kData]

set_option maxRecDepth 100000 in
set_option maxHeartbeats 3200000 in
theorem mcopy_any (b : Nat) (l : List POp) (k : Int) (w : World) (h : MAt w b l) (hl : l.length ≤ 1000000) (hb : ∀ o ∈ l, 0 ≤ o.a ∧ o.a ≤ 1000000 ∧ 0 ≤ o.n ∧ o.n ≤ 1000000 ∧ o.data.length ≤ 1000000) (hk : 0 ≤ k ∧ k ≤ 1000000) :
    Calls Tryd.prog 62 #[.pointer (some ⟨b, 0, none⟩), .int .i64 k] w fun e w' => e = .returned (.tuple #[]) ∧ MAt w' b (addCopy l k) ∧ Below b w w' := by
  obtain ⟨i0, hi, hz0, hz1, hz2⟩ := info_parts info_op
  obtain ⟨v, h⟩ := h
  have c0 := h.c0
  rcases split_last l with rfl | ⟨m, o, rfl⟩
  · have HR := Lib.hid h
    have hown := h.2
    obtain ⟨A, cap, rfl⟩ := owns_sl hown
    rw [addCopy_nil]
    clear h hb hl hown
    go_enter Tryd.func62, Tryd.ntmps62
    go_wp2_with fail
    go_quiet (fail)
    have NEWC : Hid (∀ u ∈ ([.string ⟨#[99, 111, 112, 121]⟩, .int .i64 k, .int .i64 1, .string ⟨#[]⟩] : List Value), u.oneCell' = true) := fun u hu => by simp at hu; rcases hu with rfl | rfl | rfl | rfl <;> rfl
    have OWN := Lib.hid (show World.ownsRow (w.drewN nq) (b + 1) 67 4 _ 0 _ from HR.out.2)
    have WR := Lib.hid (show MRaw (w.drewN nq) b _ _ from HR.out)
    have HM1 : Hid (0 + 1 ≤ maxLen) := by show _ ≤ _; unfold maxLen; omega
    have HM2 : Hid ((0 + 1) * 48 ≤ 140737488355328) := by show _ ≤ _; omega
    have HM3 : Hid (b + 1 ≤ ((w.drewN nq).alloc (.cells #[.string ⟨#[99, 111, 112, 121]⟩, .int .i64 k, .int .i64 1, .string ⟨#[]⟩] 67)).heap.size) := by show _ ≤ _; have := HR.out.lt; simp; omega
    go_wp2_with (at_builtin; refine wpList_append_own _ rfl _ _ 22 rfl (b + 1) 67 i0 _ 4 48 Tryd.underlying22 hi hz0 hz1 hz2 rfl (by decide) _ _ _ rfl (OWN.out.alloc _) ⟨w.heap.size, 0, none⟩ 1 1 [.string ⟨#[99, 111, 112, 121]⟩, .int .i64 k, .int .i64 1, .string ⟨#[]⟩] rfl rfl (four_news (heap_alloc_new (w.drewN nq) _)) (fun u hu => NEWC.out u hu) HM1.out HM2.out HM3.out ?_; intro v' w3 hown' hgrow _; obtain ⟨A', q', rfl⟩ := owns_sl hown'; have fb := MRaw.fg WR.out hgrow; have cb := MRaw.cg WR.out hgrow)
    have T := MRaw.tail (p := ⟨kCopy, k, 1, []⟩) WR.out (by rw [copyVals]; exact hown') hgrow
    go_returns
    exact ⟨rfl, T.1, by first | exact T.2 | exact below_undrew T.2⟩
  · obtain ⟨g, cap, rfl, hg, hc1, hc2, d0, d1, d2, d3, df⟩ := h.last
    obtain ⟨y1, y2, y3, y4, y5⟩ := hb o (by simp)
    have hml : m.length ≤ 1000000 := by simp at hl; omega
    have HR := Lib.hid h
    have HDF := Lib.hid df
    clear h hb hl df
    unfold maxLen at hc2
    by_cases hkk : o.kind = kCopy
    · have k1 := tl_eq o.kind [99, 111, 112, 121] (by rw [hkk, kCopy_is])
      by_cases hak : o.a + o.n = k
      · rw [addCopy_more m o k ⟨hkk, hak⟩]
        have q1 : (o.a + o.n == k) = true := by simp [hak]
        have HAK := Lib.hid hak
        have f2 := HDF.out (m.length * 4 + 2)
        clear hkk hak
        go_enter Tryd.func62, Tryd.ntmps62
        go_wp2_with fail
        go_quiet (fail)
        go_wp2_with fail
        have T := (MRaw.store (w := w.drewN nq) (p := ⟨o.kind, o.a, o.n + 1, o.data⟩) 2 (.int .i64 (o.n + 1)) HR.out (by decide) rfl)
        go_returns
        exact ⟨rfl, T.1, below_undrew T.2⟩
      · rw [addCopy_new m o k (fun h => hak h.2)]
        have q1 : (o.a + o.n == k) = false := by simp [hak]
        have HLEN : (m ++ [o]).length = m.length + 1 := by simp
        have HLN := Lib.hid HLEN
        clear hkk hak HLEN
        go_enter Tryd.func62, Tryd.ntmps62
        go_wp2_with fail
        go_quiet (fail)
        have NEWC : Hid (∀ u ∈ ([.string ⟨#[99, 111, 112, 121]⟩, .int .i64 k, .int .i64 1, .string ⟨#[]⟩] : List Value), u.oneCell' = true) := fun u hu => by simp at hu; rcases hu with rfl | rfl | rfl | rfl <;> rfl
        have OWN := Lib.hid (show World.ownsRow (w.drewN nq) (b + 1) 67 4 (.slice (some ⟨g, 0, none⟩) (m.length + 1) cap) (m.length + 1) (ocells (m ++ [o])) from (by have := HR.out.2; rw [HLN.out] at this; exact this))
        have WR := Lib.hid (show MRaw (w.drewN nq) b _ _ from HR.out)
        have HM1 : Hid ((m.length + 1) + 1 ≤ maxLen) := by show _ ≤ _; unfold maxLen; omega
        have HM2 : Hid (((m.length + 1) + 1) * 48 ≤ 140737488355328) := by show _ ≤ _; omega
        have HM3 : Hid (b + 1 ≤ ((w.drewN nq).alloc (.cells #[.string ⟨#[99, 111, 112, 121]⟩, .int .i64 k, .int .i64 1, .string ⟨#[]⟩] 67)).heap.size) := by show _ ≤ _; have := HR.out.lt; simp; omega
        go_wp2_with (at_builtin; refine wpList_append_own _ rfl _ _ 22 rfl (b + 1) 67 i0 _ 4 48 Tryd.underlying22 hi hz0 hz1 hz2 rfl (by decide) _ _ _ rfl (OWN.out.alloc _) ⟨w.heap.size, 0, none⟩ 1 1 [.string ⟨#[99, 111, 112, 121]⟩, .int .i64 k, .int .i64 1, .string ⟨#[]⟩] rfl rfl (four_news (heap_alloc_new (w.drewN nq) _)) (fun u hu => NEWC.out u hu) HM1.out HM2.out HM3.out ?_; intro v' w3 hown' hgrow _; obtain ⟨A', q', rfl⟩ := owns_sl hown'; have fb := MRaw.fg WR.out hgrow; have cb := MRaw.cg WR.out hgrow)
        have T := MRaw.tail (p := ⟨kCopy, k, 1, []⟩) WR.out (by rw [copyVals, HLN.out]; exact hown') hgrow
        go_returns
        exact ⟨rfl, T.1, by first | exact T.2 | exact below_undrew T.2⟩
    · have k1 := tl_ne o.kind [99, 111, 112, 121] (by rw [← kCopy_is]; exact hkk)
      rw [addCopy_new m o k (fun h => hkk h.1)]
      have HLEN : (m ++ [o]).length = m.length + 1 := by simp
      clear hkk
      have HLN := Lib.hid HLEN
      clear HLEN
      go_enter Tryd.func62, Tryd.ntmps62
      go_wp2_with fail
      go_quiet (fail)
      have NEWC : Hid (∀ u ∈ ([.string ⟨#[99, 111, 112, 121]⟩, .int .i64 k, .int .i64 1, .string ⟨#[]⟩] : List Value), u.oneCell' = true) := fun u hu => by simp at hu; rcases hu with rfl | rfl | rfl | rfl <;> rfl
      have OWN := Lib.hid (show World.ownsRow (w.drewN nq) (b + 1) 67 4 (.slice (some ⟨g, 0, none⟩) (m.length + 1) cap) (m.length + 1) (ocells (m ++ [o])) from (by have := HR.out.2; rw [HLN.out] at this; exact this))
      have WR := Lib.hid (show MRaw (w.drewN nq) b _ _ from HR.out)
      have HM1 : Hid ((m.length + 1) + 1 ≤ maxLen) := by show _ ≤ _; unfold maxLen; omega
      have HM2 : Hid (((m.length + 1) + 1) * 48 ≤ 140737488355328) := by show _ ≤ _; omega
      have HM3 : Hid (b + 1 ≤ ((w.drewN nq).alloc (.cells #[.string ⟨#[99, 111, 112, 121]⟩, .int .i64 k, .int .i64 1, .string ⟨#[]⟩] 67)).heap.size) := by show _ ≤ _; have := HR.out.lt; simp; omega
      go_wp2_with (at_builtin; refine wpList_append_own _ rfl _ _ 22 rfl (b + 1) 67 i0 _ 4 48 Tryd.underlying22 hi hz0 hz1 hz2 rfl (by decide) _ _ _ rfl (OWN.out.alloc _) ⟨w.heap.size, 0, none⟩ 1 1 [.string ⟨#[99, 111, 112, 121]⟩, .int .i64 k, .int .i64 1, .string ⟨#[]⟩] rfl rfl (four_news (heap_alloc_new (w.drewN nq) _)) (fun u hu => NEWC.out u hu) HM1.out HM2.out HM3.out ?_; intro v' w3 hown' hgrow _; obtain ⟨A', q', rfl⟩ := owns_sl hown'; have fb := MRaw.fg WR.out hgrow; have cb := MRaw.cg WR.out hgrow)
      have T := MRaw.tail (p := ⟨kCopy, k, 1, []⟩) WR.out (by rw [copyVals, HLN.out]; exact hown') hgrow
      go_returns
      exact ⟨rfl, T.1, by first | exact T.2 | exact below_undrew T.2⟩
end Go.Proofs.YtkhjhbgoccljfaaDoor
