/- Texts of one proof, one behind the other: Build. -/
import Derived.Test.YtdpoalbbcmkceaaGreatDoorB10
import Derived.Test.YtdpoalbbcmkceaaGreatDoorB12
import Derived.Lib.Builder
/- Contracts of a strings.Builder that the call itself has made: WriteString, Len, String. -/
namespace Go.Proofs.YtdpoalbbcmkceaaGreatDoor
open Go.RowKit

/-- a builder at block b holds these bytes; all that it owns lies from b on -/
def BAt (w : World) (b : Nat) (l : List UInt8) : Prop := Lib.IsBuilder 219 5 b b (l.map bv) w
theorem BAt.lt {w : World} {b : Nat} {l : List UInt8} (h : BAt w b l) : b < w.heap.size := by
  rcases h with h | h
  · exact h.lt
  · exact h.lt
theorem BAt.new (w : World) : BAt (w.alloc (.cells #[.pointer none, .slice none 0 0] 219)) w.heap.size [] :=
  .inl ⟨Nat.le_refl _, .slice none 0 0, heap_alloc_new _ _, World.ownsRow_nil _ _ _ _, by simp [Value.ownBlock]⟩
theorem BAt.below {w w' : World} {b : Nat} {l : List UInt8} (h : BAt w b l) (hb : Below w.heap.size w w') : BAt w' b l := by
  have hlt := h.lt
  have H : ∀ p, Lib.BuilderAt 219 5 b b p (l.map bv) w → Lib.BuilderAt 219 5 b b p (l.map bv) w' := by
    intro p h
    obtain ⟨hB, v, h1, h2, h3⟩ := h
    exact ⟨hB, v, (hb.block b hlt).trans h1, h2.kept (grownBy_below (r := none) hb) (by
      rcases v.ownBlock with _ | j
      · exact .inl rfl
      · exact .inr (by simp)), h3⟩
  rcases h with h | h
  · exact .inl (H _ h)
  · exact .inr (H _ h)

theorem bstring_any (b : Nat) (l : List UInt8) (w : World) (h : BAt w b l) :
    Calls Tryz.prog 138 #[.pointer (some ⟨b, 0, none⟩)] w fun e w' => e = .returned (.string (bs l)) ∧ Below b w w' := by
  have e : Lib.byteCells l = l.map bv := rfl
  have := Tryz.Builder_String_any b b l w (by rw [e]; exact h) (Nat.le_of_lt h.lt)
  rw [show bs l = ⟨l.toArray⟩ by unfold bs; rfl]
  exact this
theorem blen_any (b : Nat) (l : List UInt8) (w : World) (h : BAt w b l) :
    Calls Tryz.prog 136 #[.pointer (some ⟨b, 0, none⟩)] w fun e w' => e = .returned (.int .i64 l.length) ∧ w = w' := by
  have := Tryz.Builder_Len b b (l.map bv) w h
  simp only [List.length_map] at this
  exact this.mono fun _ _ h => ⟨h.1, h.2.symm⟩

theorem bat_grown {w w' : World} {b : Nat} {p v : Value} (hlt : b < w.heap.size) (hbk : w.heap[b]? = some (.cells #[p, v] 219 (0, 0))) (hne : v.ownBlock ≠ some b) (hg : w.grownBy w' v.ownBlock) :
    w'.cell? ⟨b, 1, none⟩ = some v ∧ w'.frozen? ⟨b, 1, none⟩ = false ∧ w'.heap[b]? = some (.cells #[p, v] 219 (0, 0)) := by
  have h : w'.heap[b]? = some (.cells #[p, v] 219 (0, 0)) := (hg.block b hlt (fun e => hne e.symm)).trans hbk
  exact ⟨by simp [World.cell?, h], by simp [World.frozen?, h], h⟩
theorem sizeBuilder : (Tryz.prog.info? 219).map (·.size) = some 2 := by kernel_rfl
theorem liesBuilder : liesAt Tryz.prog Tryz.prog.depth 219 (2 / Tryz.prog.cellsOf 219) 0 219 1 = true := by kernel_rfl
set_option maxRecDepth 100000 in
set_option maxHeartbeats 1600000 in
theorem copyCheck_any (b : Nat) (l : List UInt8) (w : World) (h : BAt w b l) :
    Calls Tryz.prog 145 #[.pointer (some ⟨b, 0, none⟩)] w fun e w' => e = .returned (.tuple #[]) ∧ Lib.BuilderAt 219 5 b b (.pointer (some ⟨b, 0, none⟩)) (l.map bv) w' ∧ Below b w w' := by
  obtain ⟨j, hj, hjs⟩ := Option.map_eq_some_iff.1 sizeBuilder
  rcases h with h | h
  · have c0 := h.cell0
    have f0 := h.frozen0
    have hsh := h.shape
    have hu := Lib.hid (h.used (.pointer (some ⟨b, 0, none⟩)))
    clear h
    go_enter Tryz.func145, Tryz.ntmps145
    go_wp2_with fail
    rw [Lib.run_to_unsafe w ⟨b, 0, none⟩ Tryz.underlying217 Tryz.underlying132 hj (by rw [hjs]; decide) hsh (Nat.zero_lt_succ 1)]
    simp only [Result.andThen]
    rw [Oper.upon_value]
    go_wp2_with fail
    rw [run_callFunc_extern Tryz.func154 (by kernel_rfl) (by kernel_rfl) (by kernel_rfl) (e := Extern.AbiNoEscape.same) (by kernel_rfl)]
    rw [Lib.run_noEscape]
    simp only [Result.andThen]
    rw [Oper.upon_value]
    go_wp2_with fail
    rw [Lib.run_from_unsafe w ⟨b, 0, none⟩ Tryz.underlying132 Tryz.underlying217 hj hsh liesBuilder]
    simp only [Result.andThen]
    rw [Oper.upon_value]
    go_wp2_with fail
    go_end0
    exact ⟨rfl, hu.out, (Below.refl b w).setCell (p := ⟨b, 0, none⟩) (Nat.le_refl _) _⟩
  · have c0 := h.cell0
    have H := Lib.hid h
    clear h
    go_enter Tryz.func145, Tryz.ntmps145
    go_wp2_with fail
    rw [Lib.run_neq_ptr_same w _ Tryz.underlying217 hj]
    go_wp2_with fail
    go_end0
    exact ⟨rfl, H.out, Below.refl b _⟩

set_option maxRecDepth 100000 in
set_option maxHeartbeats 1600000 in
theorem bwrite_any (b : Nat) (l m : List UInt8) (w : World) (h : BAt w b l) (hm : l.length + m.length ≤ 1000000000) :
    Calls Tryz.prog 137 #[.pointer (some ⟨b, 0, none⟩), .string (bs m)] w fun e w' => e = .returned (.tuple #[.int .i64 m.length, .nilIface]) ∧ BAt w' b (l ++ m) ∧ Below b w w' := by
  obtain ⟨i0, hi, hz0, hz1, hz2⟩ := info_parts infoU8
  have hlt := h.lt
  have HC := Lib.hid (copyCheck_any b l w h)
  have HM1 : Hid (l.length + (bs m).size ≤ maxLen) := by show _ ≤ _; rw [bs_size]; unfold maxLen; omega
  have HM2 : Hid (l.length + (bs m).size ≤ 140737488355328) := by show _ ≤ _; rw [bs_size]; omega
  have HFIN : Hid (∀ w', Lib.BuilderAt 219 5 b b (.pointer (some ⟨b, 0, none⟩)) (l.map bv ++ m.map bv) w' → BAt w' b (l ++ m)) := fun w' h => .inr (by rw [List.map_append]; exact h)
  clear h hm
  go_enter Tryz.func137, Tryz.ntmps137
  go_wp2_with fail
  refine HC.out.mono ?_
  rintro e w1 ⟨rfl, h1, hb1⟩
  obtain ⟨hB, v, hbk, hown, hne⟩ := h1
  rw [List.length_map] at hown
  have c0 : w1.cell? ⟨b, 0, none⟩ = some (.pointer (some ⟨b, 0, none⟩)) := by rw [Lib.cell_of_heap hbk]; rfl
  have c1 : w1.cell? ⟨b, 1, none⟩ = some v := by rw [Lib.cell_of_heap hbk]; rfl
  have hlt1 := Nat.lt_of_lt_of_le hlt hb1.size
  have HS := Lib.hid (Nat.le_trans (Nat.le_of_lt hlt) hb1.size)
  go_wp2_with (at_builtin; refine Lib.wpList_append_own_string _ rfl _ _ 85 9 rfl b 5 i0 Tryz.underlying85 Tryz.underlying9 hi hz0 hz1 hz2 _ _ _ rfl hown (bs m) rfl HM1.out HM2.out HS.out ?_; intro v' w2 hown' hgrow _; obtain ⟨A', q', rfl⟩ := owns_sl hown'; have T2 := bat_grown hlt1 hbk hne hgrow; have d1 := T2.1; have f1 := T2.2.1)
  go_ret2
  rw [strCells_bs, bs_size] at hown'
  exact ⟨rfl, HFIN.out _ (Lib.BuilderAt.put (T := 219) (e := 5) hB T2.2.2 (bs' := l.map bv ++ m.map bv) (by simpa using hown') (by decide)), (hb1.grown hgrow HS.out (fun k hk => (hown.lt k hk).1)).setCell (p := ⟨b, 1, none⟩) hB _⟩
end Go.Proofs.YtdpoalbbcmkceaaGreatDoor
