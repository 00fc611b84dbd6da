/- TapeActs: what the walk carries: the package's disk and the document's tape, side by side. -/
import Derived.Test.YtomaojpldinmgaaDoorTaped
import Derived.Test.YtomaojpldinmgaaDoorRefTapM
import Derived.Test.YtomaojpldinmgaaDoorCode
import Derived.Test.YtomaojpldinmgaaDoorArgWrite
namespace Go.Proofs.YtomaojpldinmgaaDoor
open Go.RowKit
set_option linter.unusedVariables false

theorem lt_of_block' {w : World} {k : Nat} {o : Obj} (h : w.heap[k]? = some o) : k < w.heap.size := (Array.getElem?_eq_some_iff.1 h).1
structure TpD (w0 w : World) (F : Nat → Prop) (db mt : Nat) (d : TP) : Prop where
  tp : TpS w0 w F db d
  td : TD w mt d
  nf : ¬ F mt
  lo : w0.heap.size ≤ mt
  len : d.b.length ≤ 1048576
section
variable {E : Nat → Addr} {w0 w w' : World} {F : Nat → Prop} {db mt : Nat} {d d' : TP}
theorem TpD.below (h : TpD w0 w F db mt d) (hb : Below w.heap.size w w') : TpD w0 w' F db mt d := ⟨h.tp.below hb, h.td.below hb, h.nf, h.lo, h.len⟩
/-- the package has done a deed, the document not yet -/
structure TpM (w0 w : World) (F : Nat → Prop) (db mt : Nat) (d d' : TP) : Prop where
  tp : TpS w0 w F db d'
  td : TD w mt d
  nf : ¬ F mt
  lo : w0.heap.size ≤ mt
theorem TpM.below (h : TpM w0 w F db mt d d') (hb : Below w.heap.size w w') : TpM w0 w' F db mt d d' := ⟨h.tp.below hb, h.td.below hb, h.nf, h.lo⟩
theorem later_at {F' : Nat → Prop} {xb : Nat} {o : Obj} (hl : LaterT w w' F F') (hx : w.heap[xb]? = some o) (hf : ¬ F xb) (hlt : xb < w.heap.size) : w'.heap[xb]? = some o ∧ ¬ F' xb :=
  ⟨(hl.1.block xb hlt hf).trans hx, fun h => (hl.2 xb h).elim hf (fun h2 => by omega)⟩
theorem TpD.mid {F' : Nat → Prop} (h : TpD w0 w F db mt d) (t : TpS w0 w' F' db d') (hl : LaterT w w' F F') : TpM w0 w' F' db mt d d' := by
  have h1 := later_at hl h.td.cells h.nf h.td.lt
  exact ⟨t, ⟨h1.1, h.td.cut⟩, h1.2, h.lo⟩
theorem TpM.done (h : TpM w0 w F db mt d d') (t : TTo w w' mt d') (hl : d'.b.length ≤ 1048576) : TpD w0 w' F db mt d' :=
  ⟨h.tp.kept t.2 (fun x hx e => h.nf (e ▸ hx)) (t.2.below h.tp.bel (fun x hx => hx ▸ h.lo)), t.1, h.nf, h.lo, hl⟩
theorem apT_fits (s : List UInt8) (h : d.b.length ≤ 1048576) : (apT d s).b.length ≤ 1048576 := by
  unfold apT
  split
  · exact h
  · split
    · exact h
    · have := wrT_len d (recL s); omega
theorem apC_le (d : TP) (s : List UInt8) : apC d s ≤ 12 := by
  unfold apC wrC
  (repeat' split) <;> omega
theorem onT_is (d : TP) : onT d = ⟨d.b, false, -1⟩ := rfl
theorem ctC_le (d : TP) (n : Int) : ctC d n ≤ 12 := by
  unfold ctC
  (repeat' split) <;> omega
theorem ctT_b (d : TP) (n : Int) : (ctT d n).b = d.b := by
  unfold ctT
  (repeat' split) <;> rfl
theorem rcT_fits (h : d.b.length ≤ 1048576) : (rcT d).b.length ≤ 1048576 := by
  unfold rcT
  have := List.length_take_le (readL d.b).2 d.b
  have h2 : (d.b.take (readL d.b).2).length ≤ d.b.length := by rw [List.length_take]; omega
  exact Nat.le_trans h2 h
/-- a deed of the package's -/
def Mid (w0 : World) (db mt : Nat) (d d' : TP) (xb : Nat) (o : Obj) (w' : World) : Prop := ∃ F', TpM w0 w' F' db mt d d' ∧ w'.heap[xb]? = some o ∧ ¬ F' xb
theorem a_app (s : List UInt8) {xb : Nat} {o : Obj} (h : TpD w0 w F db mt d) (hE : TEnv E w0) (hs : s.length ≤ 1000000) (hx : w.heap[xb]? = some o) (hf : ¬ F xb) :
    Calls Tryd.prog 8 #[.pointer (some ⟨db, 0, none⟩), .string (bs s)] w fun e w' => e = .returned (ev E (apC d s)) ∧ Mid w0 db mt d (apT d s) xb o w' := by
  refine (tapp_s s h.tp hE hs (by have := h.len; omega)).mono ?_
  rintro e w' ⟨he, F', t, l⟩
  have := later_at l hx hf (lt_of_block' hx)
  exact ⟨he, F', h.mid t l, this⟩
theorem a_cut (n : Int) {xb : Nat} {o : Obj} (h : TpD w0 w F db mt d) (hE : TEnv E w0) (hn : n ≤ 9223372036854775807) (hx : w.heap[xb]? = some o) (hf : ¬ F xb) :
    Calls Tryd.prog 10 #[.pointer (some ⟨db, 0, none⟩), .int .i64 n] w fun e w' => e = .returned (ev E (ctC d n)) ∧ Mid w0 db mt d (ctT d n) xb o w' := by
  refine (tcut_s n h.tp hE hn).mono ?_
  rintro e w' ⟨he, F', t, l⟩
  have := later_at l hx hf (lt_of_block' hx)
  exact ⟨he, F', h.mid t l, this⟩
/-- a deed of the document's behind it -/
def Fin2 (w0 : World) (db mt : Nat) (d' : TP) (xb : Nat) (o : Obj) (w' : World) : Prop := (∃ F', TpD w0 w' F' db mt d') ∧ w'.heap[xb]? = some o
theorem d_app (s : List UInt8) {xb : Nat} {o : Obj} (h : Mid w0 db mt d (apT d s) xb o w) (hs : s.length ≤ 1000000) (hl : d.b.length ≤ 1048576) (hne : xb ≠ mt) :
    Calls Tryd.prog 9 #[.pointer (some ⟨mt, 0, none⟩), .string (bs s)] w fun e w' => e = .returned (.int .i64 (apC d s : Nat)) ∧ Fin2 w0 db mt (apT d s) xb o w' := by
  obtain ⟨F', h1, h2, h3⟩ := h
  refine (rtapp_any mt d s w h1.td hs (by omega)).mono ?_
  rintro e w' ⟨he, t⟩
  exact ⟨he, ⟨F', h1.done t (apT_fits s hl)⟩, (t.2.block xb (lt_of_block' h2) hne).trans h2⟩
theorem d_cut (n : Int) {xb : Nat} {o : Obj} (h : Mid w0 db mt d (ctT d n) xb o w) (hn : n ≤ 9223372036854775807) (hl : d.b.length ≤ 1048576) (hne : xb ≠ mt) :
    Calls Tryd.prog 11 #[.pointer (some ⟨mt, 0, none⟩), .int .i64 n] w fun e w' => e = .returned (.int .i64 (ctC d n : Nat)) ∧ Fin2 w0 db mt (ctT d n) xb o w' := by
  obtain ⟨F', h1, h2, h3⟩ := h
  refine (rsetcut_any mt d n w h1.td hn).mono ?_
  rintro e w' ⟨he, t⟩
  exact ⟨he, ⟨F', h1.done t (by rw [ctT_b]; exact hl)⟩, (t.2.block xb (lt_of_block' h2) hne).trans h2⟩
theorem Fin2.below {xb : Nat} {o : Obj} (h : Fin2 w0 db mt d' xb o w) (hb : Below w.heap.size w w') : Fin2 w0 db mt d' xb o w' := by
  obtain ⟨⟨F, h1⟩, h2⟩ := h
  exact ⟨⟨F, h1.below hb⟩, (hb.block xb (lt_of_block' h2)).trans h2⟩
end
end Go.Proofs.YtomaojpldinmgaaDoor
