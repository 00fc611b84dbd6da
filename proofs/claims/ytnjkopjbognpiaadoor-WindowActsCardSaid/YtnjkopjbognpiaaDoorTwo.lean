/- A box of the document's: a number, a list of numbers, a list of texts; each list a row of the call's own. -/
import Derived.Test.YtnjkopjbognpiaaDoorRefWinQ
import Derived.Test.YtnjkopjbognpiaaDoorWinSnd
namespace Go.Proofs.YtnjkopjbognpiaaDoor
open Go.RowKit
set_option linter.unusedVariables false

def intV (l : List Int) : List Value := l.map (Value.int .i64)
def txtV (l : List (List UInt8)) : List Value := l.map fun x => Value.string (bs x)
theorem intV_snoc (l : List Int) (x : Int) : intV (l ++ [x]) = intV l ++ [.int .i64 x] := by unfold intV; simp
theorem txtV_snoc (l : List (List UInt8)) (x : List UInt8) : txtV (l ++ [x]) = txtV l ++ [.string (bs x)] := by unfold txtV; simp
theorem intV_len (l : List Int) : (intV l).length = l.length := by unfold intV; simp
theorem txtV_len (l : List (List UInt8)) : (txtV l).length = l.length := by unfold txtV; simp
theorem infoInt' : (Tryd.prog.info? 3).map (fun i => (i.zero, i.size, i.bytes)) = some (some (.int .i64 0), 1, 8) := by kernel_rfl
structure TwoL (T : TypeId) (w : World) (base b : Nat) (vN vD : Value) (x : Int) (ln : List Int) (ld : List (List UInt8)) : Prop where
  cells : w.heap[b]? = some (.cells #[.int .i64 x, vN, vD] T (0, 0))
  ownN : w.ownsRow base 3 1 vN ln.length (intV ln)
  ownD : w.ownsRow base 9 1 vD ld.length (txtV ld)
  lo : base ≤ b
  neN : vN.ownBlock ≠ some b
  neD : vD.ownBlock ≠ some b
  ne : ∀ g, vN.ownBlock = some g → vD.ownBlock ≠ some g
def BFoot (b : Nat) (vN vD : Value) : Nat → Prop := fun y => y = b ∨ vN.ownBlock = some y ∨ vD.ownBlock = some y
def TwoTo (T : TypeId) (w w' : World) (base b : Nat) (vN vD : Value) (x : Int) (ln : List Int) (ld : List (List UInt8)) : Prop :=
  ∃ vN' vD', TwoL T w' base b vN' vD' x ln ld ∧ Chg w w' (BFoot b vN vD) ∧ ∀ y, BFoot b vN' vD' y → BFoot b vN vD y ∨ w.heap.size ≤ y
section
variable {T : TypeId} {w w1 w2 : World} {base b : Nat} {vN vD vN' vD' : Value} {x x' : Int} {ln ln' : List Int} {ld ld' : List (List UInt8)}
theorem TwoL.lt (h : TwoL T w base b vN vD x ln ld) : b < w.heap.size := lt_of_block h.cells
theorem TwoL.cs (h : TwoL T w base b vN vD x ln ld) : (w.cell? ⟨b, 0, none⟩ = some (.int .i64 x) ∧ w.cell? ⟨b, 1, none⟩ = some vN ∧ w.cell? ⟨b, 2, none⟩ = some vD) ∧ ∀ k, w.frozen? ⟨b, k, none⟩ = false := by
  refine ⟨⟨?_, ?_, ?_⟩, fun k => ?_⟩ <;> simp [World.cell?, World.frozen?, h.cells]
theorem TwoL.kept {S : Nat → Prop} (h : TwoL T w base b vN vD x ln ld) (hc : Chg w w1 S) (hS : ∀ y, BFoot b vN vD y → ¬ S y) : TwoL T w1 base b vN vD x ln ld :=
  ⟨(hc.block b h.lt (hS b (.inl rfl))).trans h.cells, own_other h.ownN hc (fun y hy => hS y (.inr (.inl hy))), own_other h.ownD hc (fun y hy => hS y (.inr (.inr hy))), h.lo, h.neN, h.neD, h.ne⟩
theorem TwoL.below (h : TwoL T w base b vN vD x ln ld) (hb : Below w.heap.size w w1) : TwoL T w1 base b vN vD x ln ld := h.kept (Chg.of_below hb (fun _ => False)) (fun _ _ h => h)
theorem TwoTo.same (h : TwoL T w base b vN vD x ln ld) (hb : Below w.heap.size w w1) : TwoTo T w w1 base b vN vD x ln ld := ⟨vN, vD, h.below hb, Chg.of_below hb _, fun y hy => .inl hy⟩
/-- the list of numbers is stored -/
theorem TwoL.setN (h : TwoL T w base b vN vD x ln ld) (hc : Chg w w1 (fun y => vN.ownBlock = some y)) (ho : w1.ownsRow base 3 1 vN' ln'.length (intV ln')) (ha : ∀ y, vN'.ownBlock = some y → vN.ownBlock = some y ∨ w.heap.size ≤ y) :
    TwoL T (w1.setCell ⟨b, 1, none⟩ vN') base b vN' vD x ln' ld ∧ TwoTo T w (w1.setCell ⟨b, 1, none⟩ vN') base b vN vD x ln' ld := by
  have hcell : w1.heap[b]? = some (.cells #[.int .i64 x, vN, vD] T (0, 0)) := (hc.block b h.lt h.neN).trans h.cells
  have hd1 : w1.ownsRow base 9 1 vD ld.length (txtV ld) := own_other h.ownD hc (fun y hy hn => h.ne y hn hy)
  have hc2 := (Chg.refl w1 (fun y => y = b)).set ⟨b, 1, none⟩ (.inl rfl) vN'
  have hbl := h.lt
  have nN : vN'.ownBlock ≠ some b := fun e => by
    rcases ha b e with h1 | h1
    · exact h.neN h1
    · omega
  have nD : ∀ g, vN'.ownBlock = some g → vD.ownBlock ≠ some g := fun g e e2 => by
    rcases ha g e with h1 | h1
    · exact h.ne g h1 e2
    · have := (h.ownD.lt g e2).2; omega
  have t : TwoL T (w1.setCell ⟨b, 1, none⟩ vN') base b vN' vD x ln' ld :=
    ⟨by simpa using set_at (k := 1) (u := vN') hcell, own_other ho hc2 (fun y hy e => nN (by rw [hy, e])), own_other hd1 hc2 (fun y hy e => h.neD (by rw [hy, e])), h.lo, nN, h.neD, nD⟩
  refine ⟨t, vN', vD, t, (hc.more (fun y _ hy => .inr (.inl hy))).trans hc2 (fun y _ hy => .inl hy), fun y hy => ?_⟩
  rcases hy with hy | hy | hy
  · exact .inl (.inl hy)
  · exact (ha y hy).imp (fun h => .inr (.inl h)) id
  · exact .inl (.inr (.inr hy))
/-- the list of texts is stored -/
theorem TwoL.setD (h : TwoL T w base b vN vD x ln ld) (hc : Chg w w1 (fun y => vD.ownBlock = some y)) (ho : w1.ownsRow base 9 1 vD' ld'.length (txtV ld')) (ha : ∀ y, vD'.ownBlock = some y → vD.ownBlock = some y ∨ w.heap.size ≤ y) :
    TwoL T (w1.setCell ⟨b, 2, none⟩ vD') base b vN vD' x ln ld' ∧ TwoTo T w (w1.setCell ⟨b, 2, none⟩ vD') base b vN vD x ln ld' := by
  have hcell : w1.heap[b]? = some (.cells #[.int .i64 x, vN, vD] T (0, 0)) := (hc.block b h.lt h.neD).trans h.cells
  have hd1 : w1.ownsRow base 3 1 vN ln.length (intV ln) := own_other h.ownN hc (fun y hy hn => h.ne y hy hn)
  have hc2 := (Chg.refl w1 (fun y => y = b)).set ⟨b, 2, none⟩ (.inl rfl) vD'
  have hbl := h.lt
  have nD : vD'.ownBlock ≠ some b := fun e => by
    rcases ha b e with h1 | h1
    · exact h.neD h1
    · omega
  have nN : ∀ g, vN.ownBlock = some g → vD'.ownBlock ≠ some g := fun g e e2 => by
    rcases ha g e2 with h1 | h1
    · exact h.ne g e h1
    · have := (h.ownN.lt g e).2; omega
  have t : TwoL T (w1.setCell ⟨b, 2, none⟩ vD') base b vN vD' x ln ld' :=
    ⟨by simpa using set_at (k := 2) (u := vD') hcell, own_other hd1 hc2 (fun y hy e => h.neN (by rw [hy, e])), own_other ho hc2 (fun y hy e => nD (by rw [hy, e])), h.lo, h.neN, nD, nN⟩
  refine ⟨t, vN, vD', t, (hc.more (fun y _ hy => .inr (.inr hy))).trans hc2 (fun y _ hy => .inl hy), fun y hy => ?_⟩
  rcases hy with hy | hy | hy
  · exact .inl (.inl hy)
  · exact .inl (.inr (.inl hy))
  · exact (ha y hy).imp (fun h => .inr (.inr h)) id
theorem TwoL.setX (h : TwoL T w base b vN vD x ln ld) (x' : Int) : TwoL T (w.setCell ⟨b, 0, none⟩ (.int .i64 x')) base b vN vD x' ln ld ∧ TwoTo T w (w.setCell ⟨b, 0, none⟩ (.int .i64 x')) base b vN vD x' ln ld := by
  have hc2 := (Chg.refl w (fun y => y = b)).set ⟨b, 0, none⟩ (.inl rfl) (.int .i64 x')
  have t : TwoL T (w.setCell ⟨b, 0, none⟩ (.int .i64 x')) base b vN vD x' ln ld :=
    ⟨by simpa using set_at (k := 0) (u := .int .i64 x') h.cells, own_other h.ownN hc2 (fun y hy e => h.neN (by rw [hy, e])), own_other h.ownD hc2 (fun y hy e => h.neD (by rw [hy, e])), h.lo, h.neN, h.neD, h.ne⟩
  exact ⟨t, vN, vD, t, hc2.more (fun y _ hy => .inl hy), fun y hy => .inl hy⟩
theorem TwoTo.trans {x2 : Int} {ln2 : List Int} {ld2 : List (List UInt8)} (h : TwoTo T w w1 base b vN vD x' ln' ld') (k : ∀ vN' vD', TwoL T w1 base b vN' vD' x' ln' ld' → TwoTo T w1 w2 base b vN' vD' x2 ln2 ld2) : TwoTo T w w2 base b vN vD x2 ln2 ld2 := by
  obtain ⟨a, c, h1, hc1, ha1⟩ := h
  obtain ⟨a2, c2, h2, hc2, ha2⟩ := k a c h1
  refine ⟨a2, c2, h2, hc1.trans hc2 (fun y hy hf => (ha1 y hf).elim id (fun h => by omega)), fun y hy => ?_⟩
  rcases ha2 y hy with h | h
  · exact ha1 y h
  · exact .inr (Nat.le_trans hc1.size h)
/-- two boxes at one place hold the same -/
theorem TwoL.same {vN2 vD2 : Value} {ln2 : List Int} {ld2 : List (List UInt8)} (h : TwoL T w base b vN vD x ln ld) (k : TwoL T w base b vN2 vD2 x' ln2 ld2) : vN = vN2 ∧ vD = vD2 := by
  have e := h.cells
  rw [k.cells] at e
  simp at e
  exact ⟨e.2.1.symm, e.2.2.symm⟩
/-- an append onto a row: what has turned -/
theorem chg_app {w w1 : World} {o : Obj} {v : Value} (hg : (w.alloc o).grownBy w1 v.ownBlock) : Chg w w1 (fun y => v.ownBlock = some y) :=
  ((Chg.refl w _).alloc o).trans ⟨hg.os, hg.tape, hg.output, hg.size, fun k hk hn => hg.block k hk (fun e => hn e.symm)⟩ (fun y _ hy => hy)
theorem at_app {w : World} {o : Obj} {v v' : Value} (h : v'.ownBlock = v.ownBlock ∨ v'.ownBlock = some (w.alloc o).heap.size) : ∀ y, v'.ownBlock = some y → v.ownBlock = some y ∨ w.heap.size ≤ y := fun y hy => by
  rcases h with h | h
  · rw [h] at hy; exact .inl hy
  · rw [h] at hy; right; simp at hy; omega
end
end Go.Proofs.YtnjkopjbognpiaaDoor
