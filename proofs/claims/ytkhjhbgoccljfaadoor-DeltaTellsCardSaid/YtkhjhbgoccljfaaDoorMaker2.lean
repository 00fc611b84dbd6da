/- Contract of delta's maker: data. -/
import Derived.Test.YtkhjhbgoccljfaaDoorMaker
namespace Go.Proofs.YtkhjhbgoccljfaaDoor
open Go.RowKit

set_option maxRecDepth 100000 in
set_option maxHeartbeats 3200000 in
theorem mdata_any (b : Nat) (l : List POp) (d : List UInt8) (w : World) (h : MAt w b l) (hl : l.length ≤ 1000000) (hb : ∀ o ∈ l, 0 ≤ o.a ∧ o.a ≤ 1000000 ∧ 0 ≤ o.n ∧ o.n ≤ 1000000 ∧ o.data.length ≤ 1000000) (hd : d.length ≤ 1000000) :
    Calls Tryd.prog 63 #[.pointer (some ⟨b, 0, none⟩), .string (bs d)] w fun e w' => e = .returned (.tuple #[]) ∧ MAt w' b (addData l d) ∧ Below b w w' := by
  obtain ⟨i0, hi, hz0, hz1, hz2⟩ := info_parts info_op
  obtain ⟨v, h⟩ := h
  have c0 := h.c0
  rcases split_last l with rfl | ⟨m, o, rfl⟩
  · have HR := Lib.hid h
    have hown := h.2
    obtain ⟨A, cap, rfl⟩ := owns_sl hown
    rw [addData_nil]
    clear h hb hl hown
    have NEWC : Hid (∀ u ∈ ([.string ⟨#[100, 97, 116, 97]⟩, .int .i64 0, .int .i64 0, .string (bs d)] : List Value), u.oneCell' = true) := fun u hu => by simp at hu; rcases hu with rfl | rfl | rfl | rfl <;> rfl
    have OWN := Lib.hid (show World.ownsRow w (b + 1) 67 4 _ 0 _ from HR.out.2)
    have WR := Lib.hid (show MRaw w b _ _ from HR.out)
    have HM1 : Hid (0 + 1 ≤ maxLen) := by show _ ≤ _; unfold maxLen; omega
    have HM2 : Hid ((0 + 1) * 48 ≤ 140737488355328) := by show _ ≤ _; omega
    have HM3 : Hid (b + 1 ≤ (w.alloc (.cells #[.string ⟨#[100, 97, 116, 97]⟩, .int .i64 0, .int .i64 0, .string (bs d)] 67)).heap.size) := by show _ ≤ _; have := HR.out.lt; simp; omega
    go_enter Tryd.func63, Tryd.ntmps63
    go_wp2_with (at_builtin; refine wpList_append_own _ rfl _ _ 22 rfl (b + 1) 67 i0 _ 4 48 Tryd.underlying22 hi hz0 hz1 hz2 rfl (by decide) _ _ _ rfl (OWN.out.alloc _) ⟨w.heap.size, 0, none⟩ 1 1 [.string ⟨#[100, 97, 116, 97]⟩, .int .i64 0, .int .i64 0, .string (bs d)] rfl rfl (four_news (heap_alloc_new w _)) (fun u hu => NEWC.out u hu) HM1.out HM2.out HM3.out ?_; intro v' w3 hown' hgrow _; obtain ⟨A', q', rfl⟩ := owns_sl hown'; have fb := MRaw.fg WR.out hgrow; have cb := MRaw.cg WR.out hgrow)
    have T := MRaw.tail (p := ⟨kData, 0, 0, d⟩) WR.out (by rw [dataVals]; exact hown') hgrow
    go_returns
    exact ⟨rfl, T.1, by first | exact T.2 | exact below_undrew T.2⟩
  · obtain ⟨g, cap, rfl, hg, hc1, hc2, d0, d1, d2, d3, df⟩ := h.last
    obtain ⟨y1, y2, y3, y4, y5⟩ := hb o (by simp)
    have hml : m.length ≤ 1000000 := by simp at hl; omega
    have HR := Lib.hid h
    have HDF := Lib.hid df
    clear h hb hl df
    unfold maxLen at hc2
    by_cases hkk : o.kind = kData
    · have k1 := tl_eq o.kind [100, 97, 116, 97] (by rw [hkk, kData_is])
      rw [addData_more m o d hkk]
      have f2 := HDF.out (m.length * 4 + 3)
      have hcat : ¬ 9223372036854775807 < o.data.length + d.length := by omega
      clear hkk
      go_enter Tryd.func63, Tryd.ntmps63
      go_wp2_with fail
      have T := (MRaw.store (w := w) (p := ⟨o.kind, o.a, o.n, o.data ++ d⟩) 3 (.string (bs o.data ++ bs d)) HR.out (by decide) (by rw [bsapp]; rfl))
      go_returns
      exact ⟨rfl, T.1, T.2⟩
    · have k1 := tl_ne o.kind [100, 97, 116, 97] (by rw [← kData_is]; exact hkk)
      rw [addData_new m o d hkk]
      have HLEN : (m ++ [o]).length = m.length + 1 := by simp
      clear hkk
      have HLN := Lib.hid HLEN
      clear HLEN
      have NEWC : Hid (∀ u ∈ ([.string ⟨#[100, 97, 116, 97]⟩, .int .i64 0, .int .i64 0, .string (bs d)] : List Value), u.oneCell' = true) := fun u hu => by simp at hu; rcases hu with rfl | rfl | rfl | rfl <;> rfl
      have OWN := Lib.hid (show World.ownsRow w (b + 1) 67 4 (.slice (some ⟨g, 0, none⟩) (m.length + 1) cap) (m.length + 1) (ocells (m ++ [o])) from (by have := HR.out.2; rw [HLN.out] at this; exact this))
      have WR := Lib.hid (show MRaw w b _ _ from HR.out)
      have HM1 : Hid ((m.length + 1) + 1 ≤ maxLen) := by show _ ≤ _; unfold maxLen; omega
      have HM2 : Hid (((m.length + 1) + 1) * 48 ≤ 140737488355328) := by show _ ≤ _; omega
      have HM3 : Hid (b + 1 ≤ (w.alloc (.cells #[.string ⟨#[100, 97, 116, 97]⟩, .int .i64 0, .int .i64 0, .string (bs d)] 67)).heap.size) := by show _ ≤ _; have := HR.out.lt; simp; omega
      go_enter Tryd.func63, Tryd.ntmps63
      go_wp2_with (at_builtin; refine wpList_append_own _ rfl _ _ 22 rfl (b + 1) 67 i0 _ 4 48 Tryd.underlying22 hi hz0 hz1 hz2 rfl (by decide) _ _ _ rfl (OWN.out.alloc _) ⟨w.heap.size, 0, none⟩ 1 1 [.string ⟨#[100, 97, 116, 97]⟩, .int .i64 0, .int .i64 0, .string (bs d)] rfl rfl (four_news (heap_alloc_new w _)) (fun u hu => NEWC.out u hu) HM1.out HM2.out HM3.out ?_; intro v' w3 hown' hgrow _; obtain ⟨A', q', rfl⟩ := owns_sl hown'; have fb := MRaw.fg WR.out hgrow; have cb := MRaw.cg WR.out hgrow)
      have T := MRaw.tail (p := ⟨kData, 0, 0, d⟩) WR.out (by rw [dataVals, HLN.out]; exact hown') hgrow
      go_returns
      exact ⟨rfl, T.1, by first | exact T.2 | exact below_undrew T.2⟩
end Go.Proofs.YtkhjhbgoccljfaaDoor
