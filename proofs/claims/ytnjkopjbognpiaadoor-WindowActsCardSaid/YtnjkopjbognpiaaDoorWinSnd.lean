/- Contracts of window's sender: NewSender, Push, Kept, Data, Take. -/
import Derived.Test.YtnjkopjbognpiaaDoorDelKept
import Derived.Test.YtnjkopjbognpiaaDoorWinLaws
import Derived.Test.YtnjkopjbognpiaaDoorWinBase
import Derived.Maps.AppendAt
namespace Go.Proofs.YtnjkopjbognpiaaDoor
open Go.RowKit
set_option linter.unusedVariables false

/-- a sender: its block sb, its row v (of blocks from base on) -/
structure SndAt (w : World) (base sb : Nat) (v : Value) (next : Int) (l : List PK) : Prop where
  cells : w.heap[sb]? = some (.cells #[.int .i64 next, v] 61 (0, 0))
  own : w.ownsRow base 68 2 v l.length (kcells l)
  lo : base ≤ sb
  ne : v.ownBlock ≠ some sb
  next : 0 ≤ next ∧ next < 65536
def SFoot (sb : Nat) (v : Value) : Nat → Prop := fun x => x = sb ∨ v.ownBlock = some x
theorem SndAt.cs {w : World} {base sb : Nat} {v : Value} {next : Int} {l : List PK} (h : SndAt w base sb v next l) : (w.cell? ⟨sb, 0, none⟩ = some (.int .i64 next) ∧ w.cell? ⟨sb, 1, none⟩ = some v) ∧ ∀ k, w.frozen? ⟨sb, k, none⟩ = false := by
  refine ⟨⟨?_, ?_⟩, fun k => ?_⟩ <;> simp [World.cell?, World.frozen?, h.cells]
theorem SndAt.kept {w w' : World} {base sb : Nat} {v : Value} {next : Int} {l : List PK} {S : Nat → Prop} (h : SndAt w base sb v next l) (hc : Chg w w' S) (h1 : ¬ S sb) (h2 : ∀ x, v.ownBlock = some x → ¬ S x) : SndAt w' base sb v next l :=
  ⟨(hc.block sb (lt_of_block h.cells) h1).trans h.cells, own_other h.own hc h2, h.lo, h.ne, h.next⟩
theorem SndAt.below {w w' : World} {base sb : Nat} {v : Value} {next : Int} {l : List PK} (h : SndAt w base sb v next l) (hb : Below w.heap.size w w') : SndAt w' base sb v next l :=
  h.kept (Chg.of_below hb (fun _ => False)) (fun h => h) (fun _ _ h => h)
theorem SndAt.drew {w : World} {base sb : Nat} {v : Value} {next : Int} {l : List PK} (h : SndAt w base sb v next l) : SndAt w.drew base sb v next l := ⟨h.cells, h.own, h.lo, h.ne, h.next⟩
theorem SndAt.foot {w : World} {base sb : Nat} {v : Value} {next : Int} {l : List PK} (h : SndAt w base sb v next l) : ∀ x, SFoot sb v x → base ≤ x ∧ x < w.heap.size := by
  rintro x (rfl | hx)
  · exact ⟨h.lo, lt_of_block h.cells⟩
  · exact h.own.lt x hx
set_option maxRecDepth 100000 in
set_option maxHeartbeats 1600000 in
theorem newsnd_any (first : Int) (w : World) : Calls Tryd.prog 5 #[.int .i64 first] w fun e w' => ∃ sb, e = .returned (.pointer (some ⟨sb, 0, none⟩)) ∧ SndAt w' w.heap.size sb (.slice none 0 0) (stN first) [] ∧ Below w.heap.size w w' := by
  have ST := Lib.hid (fun w' => wstart_any first w')
  have HL := Lib.hid (md_lt (max first 0))
  go_enter Tryd.func5, Tryd.ntmps5
  go_wp2_with fail
  refine (ST.out _).mono ?_
  rintro e w1 ⟨rfl, rfl⟩
  go_wp2_with fail
  go_ret
  exact ⟨_, rfl, ⟨heap_alloc_new _ _, World.ownsRow_nil _ _ _ _, Nat.le_refl _, by simp [Value.ownBlock], HL.out⟩, wb_alloc w _⟩

/-- what a push says -/
def pushC (next : Int) (l : List PK) (s : List UInt8) : Nat := if 20000 < s.length then 2 else match l with
  | [] => 0
  | o :: _ => if 32 ≤ md (next - o.n) then 8 else 0
theorem pushC_bound {next : Int} {l : List PK} {s : List UInt8} (h : 20000 < s.length) : pushC next l s = 2 := by unfold pushC; rw [if_pos h]
theorem pushC_nil {next : Int} {s : List UInt8} (h : ¬ 20000 < s.length) : pushC next [] s = 0 := by unfold pushC; rw [if_neg h]
theorem pushC_full {next : Int} {o : PK} {l : List PK} {s : List UInt8} (h : ¬ 20000 < s.length) (h2 : 32 ≤ md (next - o.n)) : pushC next (o :: l) s = 8 := by unfold pushC; rw [if_neg h]; simp [h2]
theorem pushC_ok {next : Int} {o : PK} {l : List PK} {s : List UInt8} (h : ¬ 20000 < s.length) (h2 : ¬ 32 ≤ md (next - o.n)) : pushC next (o :: l) s = 0 := by unfold pushC; rw [if_neg h]; simp [h2]
def pushN (c : Nat) (next : Int) : Int := if c = 0 then next else 0
def pushX (c : Nat) (next : Int) : Int := if c = 0 then md (next + 1) else next
def pushL (c : Nat) (next : Int) (l : List PK) (s : List UInt8) : List PK := if c = 0 then l ++ [⟨next, s⟩] else l

theorem infoKept : (Tryd.prog.info? 68).map (fun i => (i.zero, i.size, i.bytes)) = some (some (.agg #[.int .i64 0, .string ⟨#[]⟩]), 2, 24) := by kernel_rfl
/-- what becomes of a sender, and what else may turn -/
def SndTo (w w' : World) (base sb : Nat) (v : Value) (next : Int) (l : List PK) : Prop :=
  ∃ v', SndAt w' base sb v' next l ∧ Chg w w' (SFoot sb v) ∧ ∀ x, v'.ownBlock = some x → v.ownBlock = some x ∨ w.heap.size ≤ x
theorem SndTo.same {w w' : World} {base sb : Nat} {v : Value} {next : Int} {l : List PK} (h : SndAt w base sb v next l) (hb : Below w.heap.size w w') : SndTo w w' base sb v next l :=
  ⟨v, h.below hb, Chg.of_below hb _, fun x hx => .inl hx⟩
end Go.Proofs.YtnjkopjbognpiaaDoor
