/- Contracts of OwnFiles, LongFiles, slices.Clone at files, files.Drop, files.find. -/
import Derived.Test.YtapdfgnfblkncaaGreatDoorFilChk2
import Derived.Test.YtapdfgnfblkncaaGreatDoorAppIs
import Derived.Test.YtapdfgnfblkncaaGreatDoorRow2
import Derived.Lib.SliceRun
namespace Go.Proofs.YtapdfgnfblkncaaGreatDoor
open Go.RowKit
set_option linter.unusedVariables false

theorem infoFile : (Tryz.prog.info? 95).map (fun i => (i.zero, i.size, i.bytes)) = some (some (.agg #[.string ⟨#[]⟩, .string ⟨#[]⟩]), 2, 32) := by kernel_rfl
theorem own_first {w : World} {base : Nat} {e : TypeId} {size : Nat} {v : Value} {m : Nat} {xs : List Value} (h : w.ownsRow base e size v (0 + m) ([] ++ xs)) : w.ownsRow base e size v m xs := by simpa using h
theorem below_first {w w' : World} (h : w.grownBy w' (Value.ownBlock (.slice none 0 0))) : Below w.heap.size w w' := ⟨h.os, h.tape, h.output, h.size, fun k hk => h.block k hk (by simp [Value.ownBlock])⟩
set_option maxRecDepth 100000 in
set_option maxHeartbeats 1600000 in
theorem flclone_any (l : List PF) (v : Value) (w : World) (hl : SliceIs w v 2 (fcells l)) (hlen : l.length ≤ 1000000) :
    Calls Tryz.prog 39 #[v] w fun e w' => ∃ r, e = .returned r ∧ w'.ownsRow w.heap.size 95 2 r l.length (fcells l) ∧ Below w.heap.size w w' := by
  obtain ⟨i0, hi, hz0, hz1, hz2⟩ := info_parts infoFile
  have HL := Lib.hid hl
  have LEN := Lib.hid (fcells_len l)
  obtain ⟨s, n, c, rfl, hn, _⟩ := hl.get
  have hnl : l.length = n := by rw [fcells_len] at hn; omega
  cases s with
  | none =>
    obtain ⟨rfl, rfl⟩ : n = 0 ∧ c = 0 := by
      rcases hl with ⟨h, _⟩ | ⟨a, len, cap, h, _⟩
      · cases h; exact ⟨rfl, rfl⟩
      · cases h
    have he : l = [] := List.eq_nil_of_length_eq_zero (by omega)
    have HO := Lib.hid (World.ownsRow_nil w w.heap.size 95 2)
    subst he
    have HB := Lib.hid (Below.refl w.heap.size w)
    have hq : ∀ w, (binOp .eql 52 (.slice none 0 0) (.slice none 0 0)).run Tryz.prog w = .ok (.bool true) w := fun w => Lib.run_eql_slice_nil w _ _ none 0 0 0 0 Tryz.underlying52
    clear hl hn hnl
    go_enter Tryz.func39, Tryz.ntmps39
    go_wp2_with fail
    go_ret
    exact ⟨_, rfl, HO.out, HB.out⟩
  | some a =>
    have hq : ∀ w, (binOp .eql 52 (.slice (some a) n c) (.slice none 0 0)).run Tryz.prog w = .ok (.bool false) w := fun w => Lib.run_eql_slice_nil w _ _ (some a) n c 0 0 Tryz.underlying52
    have HN1 : Hid (0 + l.length ≤ maxLen) := by show _ ≤ _; unfold maxLen; omega
    have HN2 : Hid ((0 + l.length) * 32 ≤ 140737488355328) := by show _ ≤ _; omega
    have SR := Lib.hid (HL.out.below (wb_alloc w (.cells #[] 95)))
    have OM := Lib.hid (World.ownsRow_made (base := w.heap.size) (e := 95) (size := 2) (w := w) #[] 0 (Nat.le_refl _) (by decide) rfl)
    have B1 := Lib.hid (wb_alloc w (.cells #[] 95))
    clear hl hn hnl
    go_enter Tryz.func39, Tryz.ntmps39
    go_wp2_with (at_builtin; refine wpList_append_is rfl _ _ 52 rfl w.heap.size 95 i0 _ 2 32 Tryz.underlying52 hi hz0 hz1 hz2 rfl (by decide) (.slice (some ⟨w.heap.size, 0, none⟩) 0 0) 0 [] rfl OM.out _ l.length _ rfl SR.out LEN.out (fcells_cell l) HN1.out HN2.out B1.out.size ?_; intro v' w5 hown hgrow _; have HO := Lib.hid (own_first hown); have HB := Lib.hid (B1.out.grown hgrow B1.out.size (fun j hj => by simp [Value.ownBlock] at hj; omega)); clear hown hgrow)
    go_ret
    exact ⟨_, rfl, HO.out, HB.out⟩
end Go.Proofs.YtapdfgnfblkncaaGreatDoor
