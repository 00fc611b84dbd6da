/- Texts of one proof, one behind the other: Mem, Fault, Aids. -/
import Derived.Test.YtdpoalbbcmkceaaGreatDoorB03
import Derived.Test.YtdpoalbbcmkceaaGreatDoorB05
import Derived.Lib.AppendStr
import Derived.OneCell
import Derived.Handy
/- Small laws on memory. -/
namespace Go.Proofs.YtdpoalbbcmkceaaGreatDoor
open Go.RowKit

theorem set_at {w : World} {b k : Nat} {cs : Array Value} {t : TypeId} {fr : Nat × Nat} {u : Value} (h : w.heap[b]? = some (.cells cs t fr)) : (w.setCell ⟨b, k, none⟩ u).heap[b]? = some (.cells (cs.setIfInBounds k u) t fr) := by
  have hlt := lt_of_block h
  have h' : w.heap[b] = .cells cs t fr := by simpa [Array.getElem?_eq_getElem hlt] using h
  show (w.heap.modify b _)[b]? = _
  rw [Array.getElem?_eq_getElem (by simpa using hlt), Array.getElem_modify_self, h']
  rfl
theorem grownBy_set (W : World) (b k : Nat) (v : Value) : W.grownBy (W.setCell ⟨b, k, none⟩ v) (some b) :=
  ⟨rfl, rfl, rfl, by simp [World.setCell], fun j _ hne => Below.heap_setCell W ⟨b, k, none⟩ v j (fun e => hne (by rw [e]))⟩
theorem grownBy_trans {a b c : World} {k : Nat} (h : a.grownBy b (some k)) (h' : b.grownBy c (some k)) : a.grownBy c (some k) :=
  ⟨h'.os.trans h.os, h'.tape.trans h.tape, h'.output.trans h.output, Nat.le_trans h.size h'.size, fun j hj hne => (h'.block j (Nat.lt_of_lt_of_le hj h.size) hne).trans (h.block j hj hne)⟩
theorem grownBy_drewN {a b : World} {r : Option Nat} (h : a.grownBy b r) (n : Nat) : a.grownBy (b.drewN n) r := ⟨h.os, h.tape, h.output, h.size, h.block⟩
theorem grownBy_below {w w' : World} {r : Option Nat} (h : Below w.heap.size w w') : w.grownBy w' r := ⟨h.os, h.tape, h.output, h.size, fun k hk _ => h.block k hk⟩

theorem strCells_bs (l : List UInt8) : Lib.strCells (bs l) = l.map bv := by simp [Lib.strCells, bv]
theorem owns_sl {W : World} {base k : Nat} {e : TypeId} {v : Value} {n : Nat} {vals : List Value} (h : W.ownsRow base e k v n vals) : ∃ A cap, v = .slice A n cap := by
  obtain ⟨h1, h2⟩ := h
  rcases h2 with ⟨rfl, rfl⟩ | ⟨g, cap, cur, rfl, _⟩
  · exact ⟨none, 0, rfl⟩
  · exact ⟨_, cap, rfl⟩
theorem infoU8 : (Tryz.prog.info? 5).map (fun i => (i.zero, i.size, i.bytes)) = some (some (.int .u8 0), 1, 1) := by kernel_rfl
end Go.Proofs.YtdpoalbbcmkceaaGreatDoor
/- Errors with a place: what a walk is told of them; sign.Bare. -/
namespace Go.Proofs.YtdpoalbbcmkceaaGreatDoor
open Go.RowKit

/-- an error's value, by its number and its place (-1: none) -/
def FErr (E : Nat → Addr) (w : World) (v : Value) (c : Nat) (at' : Int) : Prop :=
  (c = 0 ∧ at' = -1 ∧ v = .nilIface) ∨ (c ≠ 0 ∧ at' = -1 ∧ v = errv (E c)) ∨
  (c ≠ 0 ∧ 0 ≤ at' ∧ ∃ fb, v = .iface 90 (.pointer (some ⟨fb, 0, none⟩)) ∧ w.heap[fb]? = some (.cells #[.int .i64 at', errv (E c)] 94 (0, 0)))
theorem FErr.nil (E : Nat → Addr) (w : World) : FErr E w .nilIface 0 (-1) := .inl ⟨rfl, rfl, rfl⟩
theorem FErr.bare (E : Nat → Addr) (w : World) {c : Nat} (h : c ≠ 0) : FErr E w (errv (E c)) c (-1) := .inr (.inl ⟨h, rfl, rfl⟩)
theorem FErr.ev (E : Nat → Addr) (w : World) (c : Nat) : FErr E w (ev E c) c (-1) := by
  by_cases h : c = 0
  · subst h; rw [ev_zero]; exact .nil E w
  · rw [ev_is E h]; exact .bare E w h
theorem FErr.at (E : Nat → Addr) {w : World} {c : Nat} (h : c ≠ 0) (k fb : Nat) (hb : w.heap[fb]? = some (.cells #[.int .i64 k, errv (E c)] 94 (0, 0))) : FErr E w (.iface 90 (.pointer (some ⟨fb, 0, none⟩))) c k :=
  .inr (.inr ⟨h, by omega, fb, rfl, hb⟩)
theorem FErr.new (E : Nat → Addr) (w : World) (c : Nat) (h : c ≠ 0) (k fb : Nat) (h2 : fb = w.heap.size) (p : Nat × Int) (hp : p = (c, (k : Int))) :
    FErr E (w.alloc (.cells #[.int .i64 k, .iface 237 (.pointer (some (E c)))] 94)) (.iface 90 (.pointer (some ⟨fb, 0, none⟩))) p.1 p.2 := by
  subst hp h2
  exact FErr.at E h _ _ (by unfold errv; exact heap_alloc_new _ _)
theorem FErr.below {E : Nat → Addr} {w w' : World} {v : Value} {c : Nat} {a : Int} (h : FErr E w v c a) (hb : Below w.heap.size w w') : FErr E w' v c a := by
  rcases h with h | h | ⟨h1, h2, fb, h3, h4⟩
  · exact .inl h
  · exact .inr (.inl h)
  · exact .inr (.inr ⟨h1, h2, fb, h3, (hb.block fb (lt_of_block h4)).trans h4⟩)
/-- none at all -/
theorem FErr.zero {E : Nat → Addr} {w : World} {v : Value} {a : Int} (h : FErr E w v 0 a) : v = .nilIface := by
  rcases h with ⟨_, _, h⟩ | ⟨h, _⟩ | ⟨h, _⟩
  · exact h
  · exact absurd rfl h
  · exact absurd rfl h
/-- some value of an interface -/
theorem FErr.some {E : Nat → Addr} {w : World} {v : Value} {c : Nat} {a : Int} (h : FErr E w v c a) (hc : c ≠ 0) : ∃ t p, v = .iface t (.pointer (some p)) := by
  rcases h with ⟨h, _⟩ | ⟨_, _, h⟩ | ⟨_, _, fb, h, _⟩
  · exact absurd h hc
  · exact ⟨_, _, by rw [h]; unfold errv; rfl⟩
  · exact ⟨_, _, h⟩

theorem asF_nil (w : World) : (Instr.typeAssert .nilIface 28 90 true).run Tryz.prog w = .ok (.tuple #[.pointer none, .bool false]) w := by kernel_rfl
theorem asF_no (v : Value) (w : World) : (Instr.typeAssert (.iface 237 v) 28 90 true).run Tryz.prog w = .ok (.tuple #[.pointer none, .bool false]) w := by kernel_rfl
theorem asF_yes (v : Value) (w : World) : (Instr.typeAssert (.iface 90 v) 28 90 true).run Tryz.prog w = .ok (.tuple #[v, .bool true]) w := by kernel_rfl
set_option maxRecDepth 100000 in
set_option maxHeartbeats 1600000 in
theorem bare_any (E : Nat → Addr) (v : Value) (c : Nat) (a : Int) (w : World) (h : FErr E w v c a) :
    Calls Tryz.prog 93 #[v] w fun e w' => e = .returned (ev E c) ∧ w = w' := by
  rcases h with ⟨h1, h2, h3⟩ | ⟨h1, h2, h3⟩ | ⟨h1, h2, fb, h3, h4⟩
  · subst h1 h3
    rw [ev_zero]
    have tas := asF_nil
    go_enter Tryz.func93, Tryz.ntmps93
    go_wp2_with fail
    go_ret
    exact ⟨rfl, rfl⟩
  · subst h3
    rw [ev_is E h1]
    unfold errv
    clear h1 h2
    have tas := asF_no
    go_enter Tryz.func93, Tryz.ntmps93
    go_wp2_with fail
    go_ret
    exact ⟨rfl, rfl⟩
  · subst h3
    rw [ev_is E h1]
    have c1 : w.cell? ⟨fb, 1, none⟩ = some (errv (E c)) := by simp [World.cell?, h4]
    unfold errv at c1 ⊢
    clear h1 h2 h4
    have tas := asF_yes
    go_enter Tryz.func93, Tryz.ntmps93
    go_wp2_with fail
    go_ret
    exact ⟨rfl, rfl⟩
end Go.Proofs.YtdpoalbbcmkceaaGreatDoor
/- Small aids: cells of a row, rows of the call's own as slices. -/
namespace Go.Proofs.YtdpoalbbcmkceaaGreatDoor
open Go.RowKit
set_option linter.unusedVariables false

theorem below_grownBy {w w' : World} (h : Below w.heap.size w w') : w.grownBy w' none := ⟨h.os, h.tape, h.output, h.size, fun k hk _ => h.block k hk⟩
theorem owns_below {w w' : World} {base : Nat} {e : TypeId} {size : Nat} {v : Value} {n : Nat} {xs : List Value} (h : w.ownsRow base e size v n xs) (hb : Below w.heap.size w w') : w'.ownsRow base e size v n xs :=
  h.kept (below_grownBy hb) (by
    rcases v.ownBlock with _ | j
    · exact .inl rfl
    · exact .inr (by simp))
theorem cell_at {w : World} {a : Addr} {i j : Nat} {v : Value} (h : w.cell? (a.add (i + (j + 1))) = some v) : w.cell? ⟨(a.add i).block, (a.add i).off + (j + 1), none⟩ = some v := by
  rw [← Addr.add_succ', Addr.add_add]; exact h
/-- a row of the call's own is such a slice -/
theorem SliceIs.ownedK {W : World} {base k : Nat} {e : TypeId} {v : Value} {n : Nat} {vals : List Value} (h : W.ownsRow base e k v n vals) : SliceIs W v k vals := by
  have h0 := h
  obtain ⟨h1, h2⟩ := h
  rcases h2 with ⟨rfl, h2⟩ | ⟨g, cap, cur, rfl, hg, hh, h3, h4, h5⟩
  · exact .inl ⟨rfl, List.eq_nil_of_length_eq_zero (by subst h2; simpa using h1)⟩
  · refine .inr ⟨⟨g, 0, none⟩, n, cap, rfl, h3, h4, h1, fun i u hi => ?_⟩
    exact h0.cells (g := g) rfl i u hi
theorem owns_slice {W : World} {base k : Nat} {e : TypeId} {v : Value} {n : Nat} {vals : List Value} (h : W.ownsRow base e k v n vals) : ∃ A cap, v = .slice A n cap := by
  obtain ⟨h1, h2⟩ := h
  rcases h2 with ⟨rfl, rfl⟩ | ⟨g, cap, cur, rfl, _⟩
  · exact ⟨none, 0, rfl⟩
  · exact ⟨_, cap, rfl⟩
theorem owns_mono' {w : World} {base base' : Nat} {e : TypeId} {size : Nat} {v : Value} {n : Nat} {xs : List Value} (h : w.ownsRow base e size v n xs) (hb : base' ≤ base) : w.ownsRow base' e size v n xs := by
  obtain ⟨h1, h2⟩ := h
  refine ⟨h1, ?_⟩
  rcases h2 with h2 | ⟨g, cap, cur, hv, hg, r⟩
  · exact .inl h2
  · exact .inr ⟨g, cap, cur, hv, by omega, r⟩
theorem grown_undrew {w w' : World} {r : Option Nat} (h : w.drew.grownBy w' r) : w.grownBy w' r := ⟨h.os, h.tape, h.output, h.size, h.block⟩
end Go.Proofs.YtdpoalbbcmkceaaGreatDoor
