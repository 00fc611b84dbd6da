/- Texts of one proof, one behind the other: Chg. -/
import Derived.Test.YtdpoalbbcmkceaaGreatDoorB06
import Derived.Deep.RegionHeld3
import Derived.Deep.RegionWith
import Derived.Carry
/- Worlds that are one another but for some blocks; rows of own memory. -/
namespace Go.Proofs.YtdpoalbbcmkceaaGreatDoor
open Go.RowKit
set_option linter.unusedVariables false

theorem wb_alloc (w : World) (o : Obj) : Below w.heap.size w (w.alloc o) := (Below.refl _ w).alloc (Nat.le_refl _) o
/-- a world is another one but for some blocks -/
structure Chg (w w' : World) (S : Nat → Prop) : Prop where
  os : w'.os = w.os
  tape : w'.tape = w.tape
  output : w'.output = w.output
  size : w.heap.size ≤ w'.heap.size
  block : ∀ k, k < w.heap.size → ¬ S k → w'.heap[k]? = w.heap[k]?
theorem Chg.refl (w : World) (S : Nat → Prop) : Chg w w S := ⟨rfl, rfl, rfl, Nat.le_refl _, fun _ _ _ => rfl⟩
theorem Chg.trans {a b c : World} {S T : Nat → Prop} (h : Chg a b S) (k : Chg b c T) (hs : ∀ x, x < a.heap.size → T x → S x) : Chg a c S :=
  ⟨k.os.trans h.os, k.tape.trans h.tape, k.output.trans h.output, Nat.le_trans h.size k.size, fun x hx hn => (k.block x (Nat.lt_of_lt_of_le hx h.size) (fun t => hn (hs x hx t))).trans (h.block x hx hn)⟩
theorem Chg.more {a b : World} {S T : Nat → Prop} (h : Chg a b S) (hs : ∀ x, x < a.heap.size → S x → T x) : Chg a b T :=
  ⟨h.os, h.tape, h.output, h.size, fun x hx hn => h.block x hx (fun t => hn (hs x hx t))⟩
theorem Chg.of_below {a b : World} (h : Below a.heap.size a b) (S : Nat → Prop) : Chg a b S := ⟨h.os, h.tape, h.output, h.size, fun x hx _ => h.block x hx⟩
theorem Chg.below {w a b : World} {S : Nat → Prop} (h : Chg a b S) (hb : Below w.heap.size w a) (hs : ∀ x, S x → w.heap.size ≤ x) : Below w.heap.size w b :=
  ⟨h.os.trans hb.os, h.tape.trans hb.tape, h.output.trans hb.output, Nat.le_trans hb.size h.size, fun x hx => (h.block x (Nat.lt_of_lt_of_le hx hb.size) (fun t => by have := hs x t; omega)).trans (hb.block x hx)⟩
theorem Chg.of_grown {a b : World} {x : Nat} (h : a.grownBy b (some x)) : Chg a b (fun y => y = x) := ⟨h.os, h.tape, h.output, h.size, fun k hk hn => h.block k hk (fun e => hn (Option.some.inj e))⟩
theorem Chg.set {a b : World} {S : Nat → Prop} (h : Chg a b S) (p : Addr) (hp : S p.block ∨ a.heap.size ≤ p.block) (u : Value) : Chg a (b.setCell p u) S :=
  ⟨h.os, h.tape, h.output, by rw [World.size_setCell]; exact h.size, fun x hx hn => (Below.heap_setCell _ _ _ _ (by intro e; subst e; rcases hp with hp | hp; exact hn hp; omega)).trans (h.block x hx hn)⟩
theorem Chg.alloc {a b : World} {S : Nat → Prop} (h : Chg a b S) (o : Obj) : Chg a (b.alloc o) S :=
  ⟨h.os, h.tape, h.output, by have := h.size; simp; omega, fun x hx hn => ((wb_alloc b o).block x (Nat.lt_of_lt_of_le hx h.size)).trans (h.block x hx hn)⟩
theorem Chg.drew {a b : World} {S : Nat → Prop} (h : Chg a b S) : Chg a b.drew S := ⟨h.os, h.tape, h.output, h.size, h.block⟩

theorem own_base {w : World} {base : Nat} {e : TypeId} {size : Nat} {v : Value} {n : Nat} {xs : List Value} (h : w.ownsRow base e size v n xs) {j : Nat} (hj : v.ownBlock = some j) : base ≤ j := by
  obtain ⟨_, h2⟩ := h
  rcases h2 with ⟨rfl, h2⟩ | ⟨g, cap, cur, hv, hg, _⟩
  · simp [Value.ownBlock] at hj
  · subst hv; simp [Value.ownBlock] at hj; omega
theorem Chg.of_own {w w' : World} {o : Obj} {base : Nat} {e : TypeId} {size : Nat} {v : Value} {n : Nat} {xs : List Value} (h : w.ownsRow base e size v n xs) (hg : (w.alloc o).grownBy w' v.ownBlock) : Chg w w' (fun x => base ≤ x) :=
  ⟨hg.os, hg.tape, hg.output, by have := hg.size; simp at this; omega, fun x hx hn => (hg.block x (by simp; omega) (fun e => hn (own_base h e.symm))).trans ((wb_alloc w o).block x hx)⟩
theorem own_kept {w w' : World} {base : Nat} {e : TypeId} {size : Nat} {v : Value} {n : Nat} {xs : List Value} {S : Nat → Prop} (h : w.ownsRow base e size v n xs) (hc : Chg w w' S) (hs : ∀ x, S x → x < base) : w'.ownsRow base e size v n xs := by
  obtain ⟨h1, h2⟩ := h
  refine ⟨h1, ?_⟩
  rcases h2 with h2 | ⟨g, cap, cur, hv, hg, hh, h3⟩
  · exact .inl h2
  · exact .inr ⟨g, cap, cur, hv, hg, (hc.block g (lt_of_block hh) (fun t => by have := hs g t; omega)).trans hh, h3⟩

def RowOf (v : Value) : Nat → Prop := fun b => v.ownBlock = some b
theorem infoStr : (Tryz.prog.info? 9).map (fun i => (i.zero, i.size, i.bytes)) = some (some (.string ⟨#[]⟩), 1, 16) := by kernel_rfl
def lenOf : Value → Nat
  | .slice _ n _ => n
  | _ => 0
theorem lenOf_own {w : World} {base : Nat} {e : TypeId} {size : Nat} {v : Value} {n : Nat} {xs : List Value} (h : w.ownsRow base e size v n xs) : lenOf v = n := by
  obtain ⟨_, h2⟩ := h
  rcases h2 with ⟨rfl, h2⟩ | ⟨g, cap, cur, rfl, _⟩
  · exact h2.symm
  · rfl
end Go.Proofs.YtdpoalbbcmkceaaGreatDoor
