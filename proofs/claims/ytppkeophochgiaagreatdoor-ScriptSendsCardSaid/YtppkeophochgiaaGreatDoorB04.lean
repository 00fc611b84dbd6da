/- Texts of one proof, one behind the other: Args, Mem, Fault, Is. -/
import Derived.Test.YtppkeophochgiaaGreatDoorRows
import Derived.Test.YtppkeophochgiaaGreatDoorB02
import Derived.ChangeOld
import Derived.Deep.Grids
import Derived.SliceStrings
import Derived.Below
import Derived.OpenShut
import Derived.WalkKit
import Derived.ProofKit
import Derived.Test.YtppkeophochgiaaGreatDoorB03
import Derived.Lib.AppendStr
import Derived.OneCell
import Derived.Handy
import Derived.LaidEql
import Derived.Stop.Asserts
import Derived.RowKitTokens
/- What a walk is told of a slice that came in: the cells of its elements. -/
namespace Go.Proofs.YtppkeophochgiaaGreatDoor
open Go.RowKit Go.ChangeShapes Go.WideShapes Go.ChangeAt Go.Deep

/-- v is a slice whose cells are vals, k for each element -/
def SliceIs (W : World) (v : Value) (k : Nat) (vals : List Value) : Prop :=
  (v = .slice none 0 0 ∧ vals = []) ∨ ∃ a len cap, v = .slice (some a) len cap ∧ len ≤ cap ∧ cap ≤ maxLen ∧ vals.length = len * k ∧ ∀ i u, vals[i]? = some u → W.cell? (a.add i) = some u
theorem SliceIs.below {W W' : World} {v : Value} {k : Nat} {vals : List Value} (h : SliceIs W v k vals) (hb : Below W.heap.size W W') : SliceIs W' v k vals := by
  rcases h with h | ⟨a, len, cap, h1, h2, h3, h4, h5⟩
  · exact .inl h
  · refine .inr ⟨a, len, cap, h1, h2, h3, h4, fun i u hi => ?_⟩
    have := h5 i u hi
    exact (hb.cell (p := a.add i) (World.block_lt_of_cell? W _ this)).trans this

/-- a slice opened -/
theorem SliceIs.get {W : World} {v : Value} {k : Nat} {vals : List Value} (h : SliceIs W v k vals) :
    ∃ s n c, v = .slice s n c ∧ vals.length = n * k ∧ n ≤ c ∧ c ≤ maxLen ∧ ∀ i u, vals[i]? = some u → ∃ a, s = some a ∧ W.cell? (a.add i) = some u := by
  rcases h with ⟨rfl, rfl⟩ | ⟨a, len, cap, rfl, h2, h3, h4, h5⟩
  · exact ⟨none, 0, 0, rfl, by simp, Nat.le_refl _, by unfold maxLen; omega, fun i u h => by simp at h⟩
  · exact ⟨some a, len, cap, rfl, h4, h2, h3, fun i u h => ⟨a, rfl, h5 i u h⟩⟩
theorem SliceIs.drewN {W : World} {v : Value} {k : Nat} {vals : List Value} (h : SliceIs W v k vals) (m : Nat) : SliceIs (W.drewN m) v k vals := h
section
variable {H : Type} {enc : TypeId × Value → H} {P : Program} {W : World} {a0 : Option Addr} {len0 cap0 : Nat} {d : DataW H} {p : List MemPlace} {t e : TypeId}
theorem of_strings (ht : P.underlying t = some (.slice e)) (he : P.underlying e = some .string) (hc : P.cellsOf e = 1) (h : DataW.Trod enc P W 0 (fun _ => true) true t (.slice a0 len0 cap0) d p) :
    ∃ l : List ByteArray, SliceIs W (.slice a0 len0 cap0) 1 (l.map .string) ∧ ∀ s ∈ l, s.size ≤ maxLen := by
  obtain ⟨fuel, hf⟩ := h
  rcases open_strings ht he hc hf with ⟨hcs, _⟩ | ⟨a, len, cap, zs, hcs, _, hl, hm, hz, _, hcell, hw⟩
  · refine ⟨[], .inl ⟨?_, rfl⟩, by simp⟩
    simp [Value.cells] at hcs
    obtain ⟨rfl, rfl, rfl⟩ := hcs
    rfl
  · simp at hz
    refine ⟨zs.take len, .inr ⟨a, len, cap, ?_, hl, hm, by simp; omega, fun i u hi => ?_⟩, fun n hn => hw n (List.mem_of_mem_take hn)⟩
    · simp [Value.cells] at hcs
      obtain ⟨rfl, rfl, rfl⟩ := hcs
      rfl
    · simp only [List.getElem?_map, Option.map_eq_some_iff] at hi
      obtain ⟨n, hn, rfl⟩ := hi
      obtain ⟨h1, rfl⟩ := List.getElem?_eq_some_iff.1 hn
      simp at h1
      rw [hcell i (by omega)]
      simp [List.getD, show i < zs.length by omega]
end
end Go.Proofs.YtppkeophochgiaaGreatDoor
/- Small laws on memory. -/
namespace Go.Proofs.YtppkeophochgiaaGreatDoor
open Go.RowKit

theorem set_at {w : World} {b k : Nat} {cs : Array Value} {t : TypeId} {fr : Nat × Nat} {u : Value} (h : w.heap[b]? = some (.cells cs t fr)) : (w.setCell ⟨b, k, none⟩ u).heap[b]? = some (.cells (cs.setIfInBounds k u) t fr) := by
  have hlt := lt_of_block h
  have h' : w.heap[b] = .cells cs t fr := by simpa [Array.getElem?_eq_getElem hlt] using h
  show (w.heap.modify b _)[b]? = _
  rw [Array.getElem?_eq_getElem (by simpa using hlt), Array.getElem_modify_self, h']
  rfl
theorem grownBy_set (W : World) (b k : Nat) (v : Value) : W.grownBy (W.setCell ⟨b, k, none⟩ v) (some b) :=
  ⟨rfl, rfl, rfl, by simp [World.setCell], fun j _ hne => Below.heap_setCell W ⟨b, k, none⟩ v j (fun e => hne (by rw [e]))⟩
theorem grownBy_trans {a b c : World} {k : Nat} (h : a.grownBy b (some k)) (h' : b.grownBy c (some k)) : a.grownBy c (some k) :=
  ⟨h'.os.trans h.os, h'.tape.trans h.tape, h'.output.trans h.output, Nat.le_trans h.size h'.size, fun j hj hne => (h'.block j (Nat.lt_of_lt_of_le hj h.size) hne).trans (h.block j hj hne)⟩
theorem grownBy_drewN {a b : World} {r : Option Nat} (h : a.grownBy b r) (n : Nat) : a.grownBy (b.drewN n) r := ⟨h.os, h.tape, h.output, h.size, h.block⟩
theorem grownBy_below {w w' : World} {r : Option Nat} (h : Below w.heap.size w w') : w.grownBy w' r := ⟨h.os, h.tape, h.output, h.size, fun k hk _ => h.block k hk⟩

theorem strCells_bs (l : List UInt8) : Lib.strCells (bs l) = l.map bv := by simp [Lib.strCells, bv]
theorem owns_sl {W : World} {base k : Nat} {e : TypeId} {v : Value} {n : Nat} {vals : List Value} (h : W.ownsRow base e k v n vals) : ∃ A cap, v = .slice A n cap := by
  obtain ⟨h1, h2⟩ := h
  rcases h2 with ⟨rfl, rfl⟩ | ⟨g, cap, cur, rfl, _⟩
  · exact ⟨none, 0, rfl⟩
  · exact ⟨_, cap, rfl⟩
theorem infoU8 : (Tryz.prog.info? 5).map (fun i => (i.zero, i.size, i.bytes)) = some (some (.int .u8 0), 1, 1) := by kernel_rfl
end Go.Proofs.YtppkeophochgiaaGreatDoor
/- Errors with a place: what a walk is told of them; sign.Bare. -/
namespace Go.Proofs.YtppkeophochgiaaGreatDoor
open Go.RowKit

/-- an error's value, by its number and its place (-1: none) -/
def FErr (E : Nat → Addr) (w : World) (v : Value) (c : Nat) (at' : Int) : Prop :=
  (c = 0 ∧ at' = -1 ∧ v = .nilIface) ∨ (c ≠ 0 ∧ at' = -1 ∧ v = errv (E c)) ∨
  (c ≠ 0 ∧ 0 ≤ at' ∧ ∃ fb, v = .iface 121 (.pointer (some ⟨fb, 0, none⟩)) ∧ w.heap[fb]? = some (.cells #[.int .i64 at', errv (E c)] 125 (0, 0)))
theorem FErr.nil (E : Nat → Addr) (w : World) : FErr E w .nilIface 0 (-1) := .inl ⟨rfl, rfl, rfl⟩
theorem FErr.bare (E : Nat → Addr) (w : World) {c : Nat} (h : c ≠ 0) : FErr E w (errv (E c)) c (-1) := .inr (.inl ⟨h, rfl, rfl⟩)
theorem FErr.ev (E : Nat → Addr) (w : World) (c : Nat) : FErr E w (ev E c) c (-1) := by
  by_cases h : c = 0
  · subst h; rw [ev_zero]; exact .nil E w
  · rw [ev_is E h]; exact .bare E w h
theorem FErr.at (E : Nat → Addr) {w : World} {c : Nat} (h : c ≠ 0) (k fb : Nat) (hb : w.heap[fb]? = some (.cells #[.int .i64 k, errv (E c)] 125 (0, 0))) : FErr E w (.iface 121 (.pointer (some ⟨fb, 0, none⟩))) c k :=
  .inr (.inr ⟨h, by omega, fb, rfl, hb⟩)
theorem FErr.new (E : Nat → Addr) (w : World) (c : Nat) (h : c ≠ 0) (k fb : Nat) (h2 : fb = w.heap.size) (p : Nat × Int) (hp : p = (c, (k : Int))) :
    FErr E (w.alloc (.cells #[.int .i64 k, .iface 345 (.pointer (some (E c)))] 125)) (.iface 121 (.pointer (some ⟨fb, 0, none⟩))) p.1 p.2 := by
  subst hp h2
  exact FErr.at E h _ _ (by unfold errv; exact heap_alloc_new _ _)
theorem FErr.below {E : Nat → Addr} {w w' : World} {v : Value} {c : Nat} {a : Int} (h : FErr E w v c a) (hb : Below w.heap.size w w') : FErr E w' v c a := by
  rcases h with h | h | ⟨h1, h2, fb, h3, h4⟩
  · exact .inl h
  · exact .inr (.inl h)
  · exact .inr (.inr ⟨h1, h2, fb, h3, (hb.block fb (lt_of_block h4)).trans h4⟩)
/-- none at all -/
theorem FErr.zero {E : Nat → Addr} {w : World} {v : Value} {a : Int} (h : FErr E w v 0 a) : v = .nilIface := by
  rcases h with ⟨_, _, h⟩ | ⟨h, _⟩ | ⟨h, _⟩
  · exact h
  · exact absurd rfl h
  · exact absurd rfl h
/-- some value of an interface -/
theorem FErr.some {E : Nat → Addr} {w : World} {v : Value} {c : Nat} {a : Int} (h : FErr E w v c a) (hc : c ≠ 0) : ∃ t p, v = .iface t (.pointer (some p)) := by
  rcases h with ⟨h, _⟩ | ⟨_, _, h⟩ | ⟨_, _, fb, h, _⟩
  · exact absurd h hc
  · exact ⟨_, _, by rw [h]; unfold errv; rfl⟩
  · exact ⟨_, _, h⟩

theorem asF_nil (w : World) : (Instr.typeAssert .nilIface 41 121 true).run Tryz.prog w = .ok (.tuple #[.pointer none, .bool false]) w := by kernel_rfl
theorem asF_no (v : Value) (w : World) : (Instr.typeAssert (.iface 345 v) 41 121 true).run Tryz.prog w = .ok (.tuple #[.pointer none, .bool false]) w := by kernel_rfl
theorem asF_yes (v : Value) (w : World) : (Instr.typeAssert (.iface 121 v) 41 121 true).run Tryz.prog w = .ok (.tuple #[v, .bool true]) w := by kernel_rfl
set_option maxRecDepth 100000 in
set_option maxHeartbeats 1600000 in
theorem bare_any (E : Nat → Addr) (v : Value) (c : Nat) (a : Int) (w : World) (h : FErr E w v c a) :
    Calls Tryz.prog 250 #[v] w fun e w' => e = .returned (ev E c) ∧ w = w' := by
  rcases h with ⟨h1, h2, h3⟩ | ⟨h1, h2, h3⟩ | ⟨h1, h2, fb, h3, h4⟩
  · subst h1 h3
    rw [ev_zero]
    have tas := asF_nil
    go_enter Tryz.func250, Tryz.ntmps250
    go_wp2_with fail
    go_ret
    exact ⟨rfl, rfl⟩
  · subst h3
    rw [ev_is E h1]
    unfold errv
    clear h1 h2
    have tas := asF_no
    go_enter Tryz.func250, Tryz.ntmps250
    go_wp2_with fail
    go_ret
    exact ⟨rfl, rfl⟩
  · subst h3
    rw [ev_is E h1]
    have c1 : w.cell? ⟨fb, 1, none⟩ = some (errv (E c)) := by simp [World.cell?, h4]
    unfold errv at c1 ⊢
    clear h1 h2 h4
    have tas := asF_yes
    go_enter Tryz.func250, Tryz.ntmps250
    go_wp2_with fail
    go_ret
    exact ⟨rfl, rfl⟩
end Go.Proofs.YtppkeophochgiaaGreatDoor
/- errors.Is and errors.As by their contracts, at the sentinels of package api and at *api.Fault. -/
namespace Go.Proofs.YtppkeophochgiaaGreatDoor
open Go.RowKit Go.Extern.Stop Go.Stop Go.Extern
set_option linter.unusedVariables false

theorem isTypeOfE (v : Value) (w : World) : (Extern.ReflectliteType.typeOf #[.iface 345 v]).run Tryz.prog w = .ok (.iface 211 (.agg #[.pointer (some ⟨26, 345, none⟩)])) w := by kernel_rfl
/-- the entry of rtype.Comparable -/
def cmpEntry : Array Value → Sem Value := Extern.ReflectliteType.method fun t => do Extern.Rtype.noPackHeld "Comparable" t; pure (.bool (← typeInfo t).comparable)
theorem isComparable (w : World) : (cmpEntry #[.agg #[.pointer (some ⟨26, 345, none⟩)]]).run Tryz.prog w = .ok (.bool true) w := by kernel_rfl
theorem isMethodComparable (v : Value) (w : World) : (Go.method 492 211 v "Comparable").run Tryz.prog w = .ok (304, v) w := by kernel_rfl
attribute [irreducible] cmpEntry
theorem isComp : (Tryz.prog.info? 345).map (·.comparable) = some true := by kernel_rfl
theorem isSize : (Tryz.prog.info? 347).map (·.size) = some 1 := by kernel_rfl
theorem noIsE (v : Value) (xT : TypeId) (w : World) : (Instr.typeAssert (.iface 345 v) xT 222 true).run Tryz.prog w = .ok (.tuple #[.nilIface, .bool false]) w := run_typeAssert_lacksB Tryz.underlying222 (by kernel_rfl) (by kernel_rfl) v xT w
theorem noUnwrapE (v : Value) (xT : TypeId) (w : World) : (Instr.typeAssert (.iface 345 v) xT 218 true).run Tryz.prog w = .ok (.tuple #[.nilIface, .bool false]) w := run_typeAssert_lacksB Tryz.underlying218 (by kernel_rfl) (by kernel_rfl) v xT w
theorem noUnwrapsE (v : Value) (xT : TypeId) (w : World) : (Instr.typeAssert (.iface 345 v) xT 220 true).run Tryz.prog w = .ok (.tuple #[.nilIface, .bool false]) w := run_typeAssert_lacksB Tryz.underlying220 (by kernel_rfl) (by kernel_rfl) v xT w
theorem noIsF (v : Value) (xT : TypeId) (w : World) : (Instr.typeAssert (.iface 121 v) xT 222 true).run Tryz.prog w = .ok (.tuple #[.nilIface, .bool false]) w := run_typeAssert_lacksB Tryz.underlying222 (by kernel_rfl) (by kernel_rfl) v xT w
theorem hasUnwrapF (v : Value) (xT : TypeId) (w : World) : (Instr.typeAssert (.iface 121 v) xT 218 true).run Tryz.prog w = .ok (.tuple #[.iface 121 v, .bool true]) w := run_typeAssert_hasB Tryz.underlying218 (by kernel_rfl) v xT w
theorem methodUnwrap (v : Value) (w : World) : (Go.method 492 121 v "Unwrap").run Tryz.prog w = .ok (298, v) w := by kernel_rfl

set_option maxHeartbeats 1600000 in
theorem is_same (a : Addr) (w : World) :
    Calls Tryz.prog 53 #[.iface 345 (.pointer (some a)), .iface 345 (.pointer (some a))] w fun e w' => e = .returned (.bool true) ∧ w = w' := by
  obtain ⟨i, hi, hcmp⟩ := Option.map_eq_some_iff.1 isComp
  obtain ⟨j, hj, hjs⟩ := Option.map_eq_some_iff.1 isSize
  have h8 := @run_callFunc_extern Tryz.prog 89 _ Extern.ReflectliteType.typeOf Tryz.func89 (by kernel_rfl) (by kernel_rfl) (by kernel_rfl) (by kernel_rfl)
  have h32 := @run_callFunc_extern Tryz.prog 304 _ cmpEntry Tryz.func304 (by kernel_rfl) (by kernel_rfl) (by kernel_rfl) (by kernel_rfl)
  have tT := isTypeOfE
  have cT := isComparable
  have mR := isMethodComparable
  have heq := run_eql_iface_ptr_same (P := Tryz.prog) w a Tryz.underlying41 Tryz.underlying345 hi hcmp hj
  go_enter Tryz.func53, Tryz.ntmps53
  go_wp2
  refine wp_loop_rounds 1 ?_
  rw [rounds_succ]
  go_wp2
  go_ret
  exact ⟨rfl, rfl⟩
set_option maxHeartbeats 1600000 in
theorem is_other (a b : Addr) (ca cb : Array Value) (ta tb : TypeId) (w : World) (hne : a ≠ b) (ha : w.heap[a.block]? = some (.cells ca ta (0, 0))) (hb : w.heap[b.block]? = some (.cells cb tb (0, 0))) :
    Calls Tryz.prog 53 #[.iface 345 (.pointer (some a)), .iface 345 (.pointer (some b))] w fun e w' => e = .returned (.bool false) ∧ w = w' := by
  obtain ⟨i, hi, hcmp⟩ := Option.map_eq_some_iff.1 isComp
  obtain ⟨j, hj, hjs⟩ := Option.map_eq_some_iff.1 isSize
  have h8 := @run_callFunc_extern Tryz.prog 89 _ Extern.ReflectliteType.typeOf Tryz.func89 (by kernel_rfl) (by kernel_rfl) (by kernel_rfl) (by kernel_rfl)
  have h32 := @run_callFunc_extern Tryz.prog 304 _ cmpEntry Tryz.func304 (by kernel_rfl) (by kernel_rfl) (by kernel_rfl) (by kernel_rfl)
  have tT := isTypeOfE
  have cT := isComparable
  have mR := isMethodComparable
  have nE := noIsE
  have uE := noUnwrapE
  have vE := noUnwrapsE
  have heq := run_eql_iface_ptr_other (P := Tryz.prog) w Tryz.underlying41 Tryz.underlying345 hi hcmp hj (by rw [hjs]; decide) hne ha hb
  go_enter Tryz.func53, Tryz.ntmps53
  go_wp2
  refine wp_loop_rounds 1 ?_
  rw [rounds_succ]
  go_wp2
  go_ret
  exact ⟨rfl, rfl⟩
set_option maxHeartbeats 1600000 in
theorem is_fault_same (fb : Nat) (b : Addr) (w : World) (h1 : w.cell? ⟨fb, 1, none⟩ = some (.iface 345 (.pointer (some b)))) :
    Calls Tryz.prog 53 #[.iface 121 (.pointer (some ⟨fb, 0, none⟩)), .iface 345 (.pointer (some b))] w fun e w' => e = .returned (.bool true) ∧ w = w' := by
  obtain ⟨i, hi, hcmp⟩ := Option.map_eq_some_iff.1 isComp
  obtain ⟨j, hj, hjs⟩ := Option.map_eq_some_iff.1 isSize
  have h8 := @run_callFunc_extern Tryz.prog 89 _ Extern.ReflectliteType.typeOf Tryz.func89 (by kernel_rfl) (by kernel_rfl) (by kernel_rfl) (by kernel_rfl)
  have h32 := @run_callFunc_extern Tryz.prog 304 _ cmpEntry Tryz.func304 (by kernel_rfl) (by kernel_rfl) (by kernel_rfl) (by kernel_rfl)
  have tT := isTypeOfE
  have cT := isComparable
  have mR := isMethodComparable
  have nE := noIsE
  have uE := noUnwrapE
  have vE := noUnwrapsE
  have nW := noIsF
  have uW := hasUnwrapF
  have mU := methodUnwrap
  have heq := run_eql_iface_ptr_same (P := Tryz.prog) w b Tryz.underlying41 Tryz.underlying345 hi hcmp hj
  have hty := run_eql_iface_types (P := Tryz.prog) 121 345 (.pointer (some ⟨fb, 0, none⟩)) (.pointer (some b)) Tryz.underlying41 (by decide) w
  go_enter Tryz.func53, Tryz.ntmps53
  go_wp2
  refine wp_loop_rounds 2 ?_
  rw [rounds_succ]
  go_wp2
  rw [rounds_succ]
  go_wp2
  go_ret
  exact ⟨rfl, rfl⟩
set_option maxHeartbeats 1600000 in
theorem is_fault_other (fb : Nat) (b a : Addr) (ca cb : Array Value) (ta tb : TypeId) (w : World) (h1 : w.cell? ⟨fb, 1, none⟩ = some (.iface 345 (.pointer (some a)))) (hne : a ≠ b) (ha : w.heap[a.block]? = some (.cells ca ta (0, 0))) (hb : w.heap[b.block]? = some (.cells cb tb (0, 0))) :
    Calls Tryz.prog 53 #[.iface 121 (.pointer (some ⟨fb, 0, none⟩)), .iface 345 (.pointer (some b))] w fun e w' => e = .returned (.bool false) ∧ w = w' := by
  obtain ⟨i, hi, hcmp⟩ := Option.map_eq_some_iff.1 isComp
  obtain ⟨j, hj, hjs⟩ := Option.map_eq_some_iff.1 isSize
  have h8 := @run_callFunc_extern Tryz.prog 89 _ Extern.ReflectliteType.typeOf Tryz.func89 (by kernel_rfl) (by kernel_rfl) (by kernel_rfl) (by kernel_rfl)
  have h32 := @run_callFunc_extern Tryz.prog 304 _ cmpEntry Tryz.func304 (by kernel_rfl) (by kernel_rfl) (by kernel_rfl) (by kernel_rfl)
  have tT := isTypeOfE
  have cT := isComparable
  have mR := isMethodComparable
  have nE := noIsE
  have uE := noUnwrapE
  have vE := noUnwrapsE
  have nW := noIsF
  have uW := hasUnwrapF
  have mU := methodUnwrap
  have heq := run_eql_iface_ptr_other (P := Tryz.prog) w Tryz.underlying41 Tryz.underlying345 hi hcmp hj (by rw [hjs]; decide) hne ha hb
  have hty := run_eql_iface_types (P := Tryz.prog) 121 345 (.pointer (some ⟨fb, 0, none⟩)) (.pointer (some b)) Tryz.underlying41 (by decide) w
  go_enter Tryz.func53, Tryz.ntmps53
  go_wp2
  refine wp_loop_rounds 2 ?_
  rw [rounds_succ]
  go_wp2
  rw [rounds_succ]
  go_wp2
  go_ret
  exact ⟨rfl, rfl⟩
end Go.Proofs.YtppkeophochgiaaGreatDoor
