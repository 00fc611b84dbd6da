/- What a row gives of the library's variables, and the library's functions of numbers and cuts by their contracts. -/
import Derived.Test.YtkjcclbnbbbfaaaGreatDoorDecPlain
import Derived.Test.YtkjcclbnbbbfaaaGreatDoorMem
import Derived.Test.YtkjcclbnbbbfaaaGreatDoorShelf
import Derived.Lib.AppendIntMem
import Derived.Lib.LaidTab
namespace Go.Proofs.YtkjcclbnbbbfaaaGreatDoor
open Go.RowKit
set_option linter.unusedVariables false

/-- the table of powers of ten; the greatest length of a short look -/
def TabW (w : World) : Prop := Lib.TabIs Tryz.prog w "internal/strconv.uint64pow10" .u64 Lib.pow10Tab
def MaxW (w : World) : Prop := ∃ m, w.cell? ⟨13, 0, none⟩ = some (.int .i64 m)
/-- the library's variables that numbers and cuts read -/
structure LibW (E : Nat → Addr) (w : World) : Prop where
  tab : Lib.TabIs Tryz.prog w "internal/strconv.uint64pow10" .u64 Lib.pow10Tab
  ml : ∃ m, w.cell? ⟨13, 0, none⟩ = some (.int .i64 m)
  syn : Has E w 13
  rng : Has E w 14
theorem var_below {P : Program} {w w' : World} {n : String} {cs : Array Value} (h : w.var? P n = some cs) (hb : Below w.heap.size w w') : w'.var? P n = some cs := by
  unfold World.var? at h ⊢
  cases hg : P.globalNamed n with
  | none => simp [hg] at h
  | some g =>
    simp only [hg, Option.bind_some] at h ⊢
    have hlt : g < w.heap.size := by
      rcases Nat.lt_or_ge g w.heap.size with h' | h'
      · exact h'
      · simp [Array.getElem?_eq_none h'] at h
    rw [hb.block g hlt]
    exact h
theorem LibW.below {E : Nat → Addr} {w w' : World} (h : LibW E w) (hb : Below w.heap.size w w') : LibW E w' := by
  obtain ⟨m, hm⟩ := h.ml
  exact ⟨var_below h.tab hb, ⟨m, (hb.cell (p := ⟨13, 0, none⟩) (World.block_lt_of_cell? w _ hm)).trans hm⟩, h.syn.below hb, h.rng.below hb⟩
theorem itoa_any (E : Nat → Addr) (n : Nat) (w : World) (hw : LibW E w) (hn : n ≤ 9223372036854775807) :
    Calls Tryz.prog 52 #[.int .i64 n] w fun e w' => e = .returned (.string (bs (Lib.decDigits n))) ∧ Below w.heap.size w w' := by
  refine (Tryz.strconv_Itoa (n : Int) (by omega) (by omega) w hw.tab).mono ?_
  rintro e w' ⟨rfl, k, os, rfl⟩
  refine ⟨?_, Lib.below_grow _ _ (Nat.le_refl _) k os⟩
  rw [Lib.itoa_nonneg]
  unfold bs; rfl
theorem atoi_yes (E : Nat → Addr) (d : List UInt8) (v : Int) (w : World) (hd : d.length ≤ 1000000000) (h : Lib.atoiAll d = .ok v) :
    Calls Tryz.prog 119 #[.string (bs d)] w fun e w' => e = .returned (.tuple #[.int .i64 v, .nilIface]) ∧ Below w.heap.size w w' := by
  refine (Tryz.strconv_Atoi_ok (bs d) (by rw [bs_size]; omega) v (by rw [bs_list]; exact h) w).mono ?_
  rintro e w' ⟨rfl, h⟩
  refine ⟨rfl, ?_⟩
  rcases h with rfl | ⟨t, rfl⟩
  · exact Below.refl _ _
  · exact Lib.bytesWorld_below w _ t
theorem atoi_no (E : Nat → Addr) (d : List UInt8) (w : World) (hd : d.length ≤ 1000000000) (hw : LibW E w) (h : ∀ v, Lib.atoiAll d ≠ .ok v) :
    Calls Tryz.prog 119 #[.string (bs d)] w fun e w' => ∃ v t p, e = .returned (.tuple #[.int .i64 v, .iface t p]) ∧ Below w.heap.size w w' := by
  have hs : (bs d).size ≤ 281474976710656 := by rw [bs_size]; omega
  have hY : w.cell? ⟨15, 0, none⟩ = some (errv (E 13)) := hw.syn
  have hR : w.cell? ⟨16, 0, none⟩ = some (errv (E 14)) := hw.rng
  rcases e : Lib.atoiAll d with v | _ | _
  · exact absurd e (h v)
  · refine (Tryz.strconv_Atoi_syntax (bs d) hs (by rw [bs_list]; exact e) _ w hY (.inr (by unfold errv; exact ⟨_, _, rfl⟩))).mono ?_
    rintro e w' ⟨N, rfl, _, _, hb⟩
    exact ⟨_, _, _, rfl, hb⟩
  · refine (Tryz.strconv_Atoi_range (bs d) hs (by rw [bs_list]; exact e) _ w hR (.inr (by unfold errv; exact ⟨_, _, rfl⟩))).mono ?_
    rintro e w' ⟨N, rfl, _, _, hb⟩
    exact ⟨_, _, _, rfl, hb⟩
theorem scut_any (E : Nat → Addr) (c : UInt8) (sep : ByteArray) (hsep : sep.data.toList = [c]) (l : List UInt8) (w : World) (hl : l.length ≤ 1000000000) (hw : LibW E w) :
    Calls Tryz.prog 49 #[.string (bs l), .string sep] w fun e w' => e = .returned (.tuple #[.string (bs (cutA c l)), .string (bs (cutB c l)), .bool (cutC c l).isSome]) ∧ Below w.heap.size w w' := by
  obtain ⟨m, hm⟩ := hw.ml
  refine (Tryz.strings_Cut (bs l) sep m w (by rw [bs_size]; omega) hm).mono ?_
  rintro e w' ⟨rfl, n, rfl⟩
  refine ⟨?_, Drew.below ⟨n, rfl⟩ _⟩
  obtain ⟨e1, e2, e3⟩ := cut_a c l
  rw [bs_list, hsep, e1, e2, e3]
  unfold bs; rfl
end Go.Proofs.YtkjcclbnbbbfaaaGreatDoor
