/- Errors with a place: what a walk is told of them; sign.Bare. -/
import Derived.Test.YtkjcclbnbbbfaaaGreatDoorMem
namespace Go.Proofs.YtkjcclbnbbbfaaaGreatDoor
open Go.RowKit

/-- an error's value, by its number and its place (-1: none) -/
def FErr (E : Nat → Addr) (w : World) (v : Value) (c : Nat) (at' : Int) : Prop :=
  (c = 0 ∧ at' = -1 ∧ v = .nilIface) ∨ (c ≠ 0 ∧ at' = -1 ∧ v = errv (E c)) ∨
  (c ≠ 0 ∧ 0 ≤ at' ∧ ∃ fb, v = .iface 102 (.pointer (some ⟨fb, 0, none⟩)) ∧ w.heap[fb]? = some (.cells #[.int .i64 at', errv (E c)] 104 (0, 0)))
theorem FErr.nil (E : Nat → Addr) (w : World) : FErr E w .nilIface 0 (-1) := .inl ⟨rfl, rfl, rfl⟩
theorem FErr.bare (E : Nat → Addr) (w : World) {c : Nat} (h : c ≠ 0) : FErr E w (errv (E c)) c (-1) := .inr (.inl ⟨h, rfl, rfl⟩)
theorem FErr.ev (E : Nat → Addr) (w : World) (c : Nat) : FErr E w (ev E c) c (-1) := by
  by_cases h : c = 0
  · subst h; rw [ev_zero]; exact .nil E w
  · rw [ev_is E h]; exact .bare E w h
theorem FErr.at (E : Nat → Addr) {w : World} {c : Nat} (h : c ≠ 0) (k fb : Nat) (hb : w.heap[fb]? = some (.cells #[.int .i64 k, errv (E c)] 104 (0, 0))) : FErr E w (.iface 102 (.pointer (some ⟨fb, 0, none⟩))) c k :=
  .inr (.inr ⟨h, by omega, fb, rfl, hb⟩)
theorem FErr.new (E : Nat → Addr) (w : World) (c : Nat) (h : c ≠ 0) (k fb : Nat) (h2 : fb = w.heap.size) (p : Nat × Int) (hp : p = (c, (k : Int))) :
    FErr E (w.alloc (.cells #[.int .i64 k, .iface 312 (.pointer (some (E c)))] 104)) (.iface 102 (.pointer (some ⟨fb, 0, none⟩))) p.1 p.2 := by
  subst hp h2
  exact FErr.at E h _ _ (by unfold errv; exact heap_alloc_new _ _)
theorem FErr.below {E : Nat → Addr} {w w' : World} {v : Value} {c : Nat} {a : Int} (h : FErr E w v c a) (hb : Below w.heap.size w w') : FErr E w' v c a := by
  rcases h with h | h | ⟨h1, h2, fb, h3, h4⟩
  · exact .inl h
  · exact .inr (.inl h)
  · exact .inr (.inr ⟨h1, h2, fb, h3, (hb.block fb (lt_of_block h4)).trans h4⟩)
/-- none at all -/
theorem FErr.zero {E : Nat → Addr} {w : World} {v : Value} {a : Int} (h : FErr E w v 0 a) : v = .nilIface := by
  rcases h with ⟨_, _, h⟩ | ⟨h, _⟩ | ⟨h, _⟩
  · exact h
  · exact absurd rfl h
  · exact absurd rfl h
/-- some value of an interface -/
theorem FErr.some {E : Nat → Addr} {w : World} {v : Value} {c : Nat} {a : Int} (h : FErr E w v c a) (hc : c ≠ 0) : ∃ t p, v = .iface t (.pointer (some p)) := by
  rcases h with ⟨h, _⟩ | ⟨_, _, h⟩ | ⟨_, _, fb, h, _⟩
  · exact absurd h hc
  · exact ⟨_, _, by rw [h]; unfold errv; rfl⟩
  · exact ⟨_, _, h⟩

theorem asF_nil (w : World) : (Instr.typeAssert .nilIface 28 102 true).run Tryz.prog w = .ok (.tuple #[.pointer none, .bool false]) w := by kernel_rfl
theorem asF_no (v : Value) (w : World) : (Instr.typeAssert (.iface 312 v) 28 102 true).run Tryz.prog w = .ok (.tuple #[.pointer none, .bool false]) w := by kernel_rfl
theorem asF_yes (v : Value) (w : World) : (Instr.typeAssert (.iface 102 v) 28 102 true).run Tryz.prog w = .ok (.tuple #[v, .bool true]) w := by kernel_rfl
set_option maxRecDepth 100000 in
set_option maxHeartbeats 1600000 in
theorem bare_any (E : Nat → Addr) (v : Value) (c : Nat) (a : Int) (w : World) (h : FErr E w v c a) :
    Calls Tryz.prog 146 #[v] w fun e w' => e = .returned (ev E c) ∧ w = w' := by
  rcases h with ⟨h1, h2, h3⟩ | ⟨h1, h2, h3⟩ | ⟨h1, h2, fb, h3, h4⟩
  · subst h1 h3
    rw [ev_zero]
    have tas := asF_nil
    go_enter Tryz.func146, Tryz.ntmps146
    go_wp2_with fail
    go_ret
    exact ⟨rfl, rfl⟩
  · subst h3
    rw [ev_is E h1]
    unfold errv
    clear h1 h2
    have tas := asF_no
    go_enter Tryz.func146, Tryz.ntmps146
    go_wp2_with fail
    go_ret
    exact ⟨rfl, rfl⟩
  · subst h3
    rw [ev_is E h1]
    have c1 : w.cell? ⟨fb, 1, none⟩ = some (errv (E c)) := by simp [World.cell?, h4]
    unfold errv at c1 ⊢
    clear h1 h2 h4
    have tas := asF_yes
    go_enter Tryz.func146, Tryz.ntmps146
    go_wp2_with fail
    go_ret
    exact ⟨rfl, rfl⟩
end Go.Proofs.YtkjcclbnbbbfaaaGreatDoor
