/- Texts of one proof, one behind the other: Chg, RawMap, ScrCmds, Row2. -/
import Derived.Test.YtppkeophochgiaaGreatDoorB04
import Derived.Deep.RegionHeld3
import Derived.Deep.RegionWith
import Derived.Carry
import Derived.WideMake
import Derived.Test.YtppkeophochgiaaGreatDoorB02
import Derived.Test.YtppkeophochgiaaGreatDoorB01
import Derived.Test.YtppkeophochgiaaGreatDoorChecked
import Derived.Test.YtppkeophochgiaaGreatDoorB08
import Derived.Laws.Rows
/- Worlds that are one another but for some blocks; rows of own memory. -/
namespace Go.Proofs.YtppkeophochgiaaGreatDoor
open Go.RowKit
set_option linter.unusedVariables false

theorem wb_alloc (w : World) (o : Obj) : Below w.heap.size w (w.alloc o) := (Below.refl _ w).alloc (Nat.le_refl _) o
/-- a world is another one but for some blocks -/
structure Chg (w w' : World) (S : Nat → Prop) : Prop where
  os : w'.os = w.os
  tape : w'.tape = w.tape
  output : w'.output = w.output
  size : w.heap.size ≤ w'.heap.size
  block : ∀ k, k < w.heap.size → ¬ S k → w'.heap[k]? = w.heap[k]?
theorem Chg.refl (w : World) (S : Nat → Prop) : Chg w w S := ⟨rfl, rfl, rfl, Nat.le_refl _, fun _ _ _ => rfl⟩
theorem Chg.trans {a b c : World} {S T : Nat → Prop} (h : Chg a b S) (k : Chg b c T) (hs : ∀ x, x < a.heap.size → T x → S x) : Chg a c S :=
  ⟨k.os.trans h.os, k.tape.trans h.tape, k.output.trans h.output, Nat.le_trans h.size k.size, fun x hx hn => (k.block x (Nat.lt_of_lt_of_le hx h.size) (fun t => hn (hs x hx t))).trans (h.block x hx hn)⟩
theorem Chg.more {a b : World} {S T : Nat → Prop} (h : Chg a b S) (hs : ∀ x, x < a.heap.size → S x → T x) : Chg a b T :=
  ⟨h.os, h.tape, h.output, h.size, fun x hx hn => h.block x hx (fun t => hn (hs x hx t))⟩
theorem Chg.of_below {a b : World} (h : Below a.heap.size a b) (S : Nat → Prop) : Chg a b S := ⟨h.os, h.tape, h.output, h.size, fun x hx _ => h.block x hx⟩
theorem Chg.below {w a b : World} {S : Nat → Prop} (h : Chg a b S) (hb : Below w.heap.size w a) (hs : ∀ x, S x → w.heap.size ≤ x) : Below w.heap.size w b :=
  ⟨h.os.trans hb.os, h.tape.trans hb.tape, h.output.trans hb.output, Nat.le_trans hb.size h.size, fun x hx => (h.block x (Nat.lt_of_lt_of_le hx hb.size) (fun t => by have := hs x t; omega)).trans (hb.block x hx)⟩
theorem Chg.of_grown {a b : World} {x : Nat} (h : a.grownBy b (some x)) : Chg a b (fun y => y = x) := ⟨h.os, h.tape, h.output, h.size, fun k hk hn => h.block k hk (fun e => hn (Option.some.inj e))⟩
theorem Chg.set {a b : World} {S : Nat → Prop} (h : Chg a b S) (p : Addr) (hp : S p.block ∨ a.heap.size ≤ p.block) (u : Value) : Chg a (b.setCell p u) S :=
  ⟨h.os, h.tape, h.output, by rw [World.size_setCell]; exact h.size, fun x hx hn => (Below.heap_setCell _ _ _ _ (by intro e; subst e; rcases hp with hp | hp; exact hn hp; omega)).trans (h.block x hx hn)⟩
theorem Chg.alloc {a b : World} {S : Nat → Prop} (h : Chg a b S) (o : Obj) : Chg a (b.alloc o) S :=
  ⟨h.os, h.tape, h.output, by have := h.size; simp; omega, fun x hx hn => ((wb_alloc b o).block x (Nat.lt_of_lt_of_le hx h.size)).trans (h.block x hx hn)⟩
theorem Chg.drew {a b : World} {S : Nat → Prop} (h : Chg a b S) : Chg a b.drew S := ⟨h.os, h.tape, h.output, h.size, h.block⟩

theorem own_base {w : World} {base : Nat} {e : TypeId} {size : Nat} {v : Value} {n : Nat} {xs : List Value} (h : w.ownsRow base e size v n xs) {j : Nat} (hj : v.ownBlock = some j) : base ≤ j := by
  obtain ⟨_, h2⟩ := h
  rcases h2 with ⟨rfl, h2⟩ | ⟨g, cap, cur, hv, hg, _⟩
  · simp [Value.ownBlock] at hj
  · subst hv; simp [Value.ownBlock] at hj; omega
def RowOf (v : Value) : Nat → Prop := fun b => v.ownBlock = some b
theorem infoStr : (Tryz.prog.info? 9).map (fun i => (i.zero, i.size, i.bytes)) = some (some (.string ⟨#[]⟩), 1, 16) := by kernel_rfl
def lenOf : Value → Nat
  | .slice _ n _ => n
  | _ => 0
end Go.Proofs.YtppkeophochgiaaGreatDoor
/- Maps by texts, as their entries lie: one is laid behind the others; one is looked up. -/
namespace Go.Proofs.YtppkeophochgiaaGreatDoor
open Go.RowKit
set_option linter.unusedVariables false
/-- the entry of a text, among entries of texts -/
def rawFind (k : ByteArray) : List MapEntry → Option Value
  | [] => none
  | e :: es => match e.key with
    | .string s => if k = s then some e.val else rawFind k es
    | _ => rawFind k es
def rawKeys (es : List MapEntry) : Prop := ∀ e ∈ es, ∃ s, e.key = .string s
theorem findNow_raw (k : ByteArray) : ∀ (es : List MapEntry) (i : Nat), rawKeys es → ∃ r, Instr.findNow .string (.string k) es i = some r ∧ r.map Prod.snd = rawFind k es := by
  intro es
  induction es with
  | nil => intro i _; exact ⟨none, rfl, rfl⟩
  | cons e es ih =>
    intro i h
    obtain ⟨s, hs⟩ := h e (by simp)
    obtain ⟨r, h1, h2⟩ := ih (i + 1) (fun x hx => h x (List.mem_cons_of_mem _ hx))
    by_cases hk : k = s
    · have hb : (k == s) = true := (MapKept.bytes_beq k s).2 hk
      refine ⟨some (i, e.val), ?_, ?_⟩
      · simp [Instr.findNow, hs, Instr.sameNow, hb]
      · simp [rawFind, hs, hk]
    · have hb : (k == s) = false := by
        cases h : k == s with
        | false => rfl
        | true => exact absurd ((MapKept.bytes_beq k s).1 h) hk
      refine ⟨r, ?_, ?_⟩
      · simp [Instr.findNow, hs, Instr.sameNow, hb, h1]
      · simp [rawFind, hs, hk, h2]
variable {P : Program}
theorem run_raw_push {w : World} (mty kt et : TypeId) (r clock : Nat) (es : Array MapEntry) (s : ByteArray) (val : Value) (hm : P.underlying mty = some (.map kt et)) (hk : P.underlying kt = some .string) (hb : w.heap[r]? = some (.map es clock)) (hkeys : rawKeys es.toList) (hf : rawFind s es.toList = none) :
    (Instr.mapUpdate mty (.map (some r)) (.string s) val).run P w = .ok () { w with heap := w.heap.setIfInBounds r (.map (es.push { key := .string s, val := val, born := clock }) (clock + 1)) } := by
  obtain ⟨q, h1, h2⟩ := findNow_raw s es.toList 0 hkeys
  rw [hf] at h2
  have hq : q = none := by cases q <;> simp_all
  subst hq
  have hc : (Instr.checkKey false 10000 kt (.string s)).run P w = .ok () w := MapKept.run_checkKey (k := .string s) hk (by simp [MapKept.IsKey]) false 9999
  simp [Instr.mapUpdate, run_underlying hm, MapKept.run_getObj_map hb, hc, MapKept.run_findKey hk h1, MapKept.run_setObj_map _ hb, Result.andThen]
theorem run_raw_look {w : World} (mty kt et : TypeId) (r clock : Nat) (es : Array MapEntry) (s : ByteArray) (z : Value) (hm : P.underlying mty = some (.map kt et)) (hk : P.underlying kt = some .string) (hb : w.heap[r]? = some (.map es clock)) (hkeys : rawKeys es.toList) (hz : (zeroValue et).run P w = .ok z w) :
    (Instr.lookup mty (.map (some r)) (.string s) true).run P w = .ok (.tuple #[(rawFind s es.toList).getD z, .bool (rawFind s es.toList).isSome]) w := by
  obtain ⟨q, h1, h2⟩ := findNow_raw s es.toList 0 hkeys
  have hc : (Instr.checkKey es.isEmpty 10000 kt (.string s)).run P w = .ok () w := MapKept.run_checkKey (k := .string s) hk (by simp [MapKept.IsKey]) es.isEmpty 9999
  rw [← h2]
  cases q with
  | none => simp [Instr.lookup, run_underlying hm, MapKept.run_getObj_map hb, hc, MapKept.run_findKey hk h1, Result.andThen, hz]
  | some q => obtain ⟨i, v⟩ := q; simp [Instr.lookup, run_underlying hm, MapKept.run_getObj_map hb, hc, MapKept.run_findKey hk h1, Result.andThen]
end Go.Proofs.YtppkeophochgiaaGreatDoor
/- The table of commands, entry by entry. Written by gen_scrcmds.py. -/
namespace Go.Proofs.YtppkeophochgiaaGreatDoor
open Go.RowKit
set_option linter.unusedVariables false
theorem push_alloc {P : Program} (w : World) (mty kt et : TypeId) (c : Nat) (es : Array MapEntry) (s : ByteArray) (val : Value) (hm : P.underlying mty = some (.map kt et)) (hk : P.underlying kt = some .string) (hkeys : rawKeys es.toList) (hf : rawFind s es.toList = none) :
    (Instr.mapUpdate mty (.map (some w.heap.size)) (.string s) val).run P (w.alloc (.map es c)) = .ok () (w.alloc (.map (es.push { key := .string s, val := val, born := c }) (c + 1))) := by
  rw [run_raw_push mty kt et w.heap.size c es s val hm hk (heap_alloc_new w _) hkeys hf]
  have e : ((w.heap.push (.map es c)).setIfInBounds w.heap.size (.map (es.push { key := .string s, val := val, born := c }) (c + 1))) = w.heap.push (.map (es.push { key := .string s, val := val, born := c }) (c + 1)) := by
    apply Array.ext'
    simp
  exact congrArg (fun hp => Result.ok () { w with heap := hp }) e

def cmE0 : MapEntry := { key := .string ⟨#[100, 114, 111, 112]⟩, val := .agg #[.int .i64 (2), .func (.func 74) #[] #[]], born := 0 }
def cmE1 : MapEntry := { key := .string ⟨#[108, 105, 115, 116]⟩, val := .agg #[.int .i64 (1), .func (.func 75) #[] #[]], born := 1 }
def cmE2 : MapEntry := { key := .string ⟨#[112, 108, 97, 110]⟩, val := .agg #[.int .i64 (0), .func (.func 76) #[] #[]], born := 2 }
def cmE3 : MapEntry := { key := .string ⟨#[115, 105, 122, 101]⟩, val := .agg #[.int .i64 (2), .func (.func 77) #[] #[]], born := 3 }
def cmE4 : MapEntry := { key := .string ⟨#[115, 101, 110, 100]⟩, val := .agg #[.int .i64 (-1), .func (.func 78) #[] #[]], born := 4 }
def cmE5 : MapEntry := { key := .string ⟨#[111, 112, 101, 110]⟩, val := .agg #[.int .i64 (1), .func (.func 79) #[] #[]], born := 5 }
def cmE6 : MapEntry := { key := .string ⟨#[97, 100, 109, 105, 116]⟩, val := .agg #[.int .i64 (2), .func (.func 80) #[] #[]], born := 6 }
def cmE7 : MapEntry := { key := .string ⟨#[109, 97, 114, 107]⟩, val := .agg #[.int .i64 (2), .func (.func 81) #[] #[]], born := 7 }
def cmE8 : MapEntry := { key := .string ⟨#[102, 97, 114]⟩, val := .agg #[.int .i64 (1), .func (.func 82) #[] #[]], born := 8 }
def cmE9 : MapEntry := { key := .string ⟨#[99, 117, 116]⟩, val := .agg #[.int .i64 (1), .func (.func 83) #[] #[]], born := 9 }
def cmE10 : MapEntry := { key := .string ⟨#[114, 101, 99, 111, 118, 101, 114]⟩, val := .agg #[.int .i64 (0), .func (.func 84) #[] #[]], born := 10 }
def cmEs : List MapEntry := [cmE0, cmE1, cmE2, cmE3, cmE4, cmE5, cmE6, cmE7, cmE8, cmE9, cmE10]
set_option maxRecDepth 100000 in
set_option maxHeartbeats 3200000 in
theorem cmds_any (w : World) : Calls Tryz.prog 51 #[] w fun e w' => e = .returned (.map (some w.heap.size)) ∧ w' = w.alloc (.map cmEs.toArray 11) := by
  have hmm := @run_makeMap Tryz.prog
  have p0 : (Instr.mapUpdate 119 (.map (some w.heap.size)) (.string ⟨#[100, 114, 111, 112]⟩) (.agg #[.int .i64 (2), .func (.func 74) #[] #[]])).run Tryz.prog (w.alloc (.map #[] 0)) = .ok () (w.alloc (.map #[cmE0] 1)) := push_alloc w _ 9 117 0 #[] _ _ Tryz.underlying119 Tryz.underlying9 (by intro e he; simp at he) (by rfl)
  have p1 : (Instr.mapUpdate 119 (.map (some w.heap.size)) (.string ⟨#[108, 105, 115, 116]⟩) (.agg #[.int .i64 (1), .func (.func 75) #[] #[]])).run Tryz.prog (w.alloc (.map #[cmE0] 1)) = .ok () (w.alloc (.map #[cmE0, cmE1] 2)) := push_alloc w _ 9 117 1 #[cmE0] _ _ Tryz.underlying119 Tryz.underlying9 (by intro e he; simp at he; subst he; exact ⟨_, rfl⟩) (by rfl)
  have p2 : (Instr.mapUpdate 119 (.map (some w.heap.size)) (.string ⟨#[112, 108, 97, 110]⟩) (.agg #[.int .i64 (0), .func (.func 76) #[] #[]])).run Tryz.prog (w.alloc (.map #[cmE0, cmE1] 2)) = .ok () (w.alloc (.map #[cmE0, cmE1, cmE2] 3)) := push_alloc w _ 9 117 2 #[cmE0, cmE1] _ _ Tryz.underlying119 Tryz.underlying9 (by intro e he; simp at he; rcases he with rfl | rfl <;> exact ⟨_, rfl⟩) (by rfl)
  have p3 : (Instr.mapUpdate 119 (.map (some w.heap.size)) (.string ⟨#[115, 105, 122, 101]⟩) (.agg #[.int .i64 (2), .func (.func 77) #[] #[]])).run Tryz.prog (w.alloc (.map #[cmE0, cmE1, cmE2] 3)) = .ok () (w.alloc (.map #[cmE0, cmE1, cmE2, cmE3] 4)) := push_alloc w _ 9 117 3 #[cmE0, cmE1, cmE2] _ _ Tryz.underlying119 Tryz.underlying9 (by intro e he; simp at he; rcases he with rfl | rfl | rfl <;> exact ⟨_, rfl⟩) (by rfl)
  have p4 : (Instr.mapUpdate 119 (.map (some w.heap.size)) (.string ⟨#[115, 101, 110, 100]⟩) (.agg #[.int .i64 (-1), .func (.func 78) #[] #[]])).run Tryz.prog (w.alloc (.map #[cmE0, cmE1, cmE2, cmE3] 4)) = .ok () (w.alloc (.map #[cmE0, cmE1, cmE2, cmE3, cmE4] 5)) := push_alloc w _ 9 117 4 #[cmE0, cmE1, cmE2, cmE3] _ _ Tryz.underlying119 Tryz.underlying9 (by intro e he; simp at he; rcases he with rfl | rfl | rfl | rfl <;> exact ⟨_, rfl⟩) (by rfl)
  have p5 : (Instr.mapUpdate 119 (.map (some w.heap.size)) (.string ⟨#[111, 112, 101, 110]⟩) (.agg #[.int .i64 (1), .func (.func 79) #[] #[]])).run Tryz.prog (w.alloc (.map #[cmE0, cmE1, cmE2, cmE3, cmE4] 5)) = .ok () (w.alloc (.map #[cmE0, cmE1, cmE2, cmE3, cmE4, cmE5] 6)) := push_alloc w _ 9 117 5 #[cmE0, cmE1, cmE2, cmE3, cmE4] _ _ Tryz.underlying119 Tryz.underlying9 (by intro e he; simp at he; rcases he with rfl | rfl | rfl | rfl | rfl <;> exact ⟨_, rfl⟩) (by rfl)
  have p6 : (Instr.mapUpdate 119 (.map (some w.heap.size)) (.string ⟨#[97, 100, 109, 105, 116]⟩) (.agg #[.int .i64 (2), .func (.func 80) #[] #[]])).run Tryz.prog (w.alloc (.map #[cmE0, cmE1, cmE2, cmE3, cmE4, cmE5] 6)) = .ok () (w.alloc (.map #[cmE0, cmE1, cmE2, cmE3, cmE4, cmE5, cmE6] 7)) := push_alloc w _ 9 117 6 #[cmE0, cmE1, cmE2, cmE3, cmE4, cmE5] _ _ Tryz.underlying119 Tryz.underlying9 (by intro e he; simp at he; rcases he with rfl | rfl | rfl | rfl | rfl | rfl <;> exact ⟨_, rfl⟩) (by rfl)
  have p7 : (Instr.mapUpdate 119 (.map (some w.heap.size)) (.string ⟨#[109, 97, 114, 107]⟩) (.agg #[.int .i64 (2), .func (.func 81) #[] #[]])).run Tryz.prog (w.alloc (.map #[cmE0, cmE1, cmE2, cmE3, cmE4, cmE5, cmE6] 7)) = .ok () (w.alloc (.map #[cmE0, cmE1, cmE2, cmE3, cmE4, cmE5, cmE6, cmE7] 8)) := push_alloc w _ 9 117 7 #[cmE0, cmE1, cmE2, cmE3, cmE4, cmE5, cmE6] _ _ Tryz.underlying119 Tryz.underlying9 (by intro e he; simp at he; rcases he with rfl | rfl | rfl | rfl | rfl | rfl | rfl <;> exact ⟨_, rfl⟩) (by rfl)
  have p8 : (Instr.mapUpdate 119 (.map (some w.heap.size)) (.string ⟨#[102, 97, 114]⟩) (.agg #[.int .i64 (1), .func (.func 82) #[] #[]])).run Tryz.prog (w.alloc (.map #[cmE0, cmE1, cmE2, cmE3, cmE4, cmE5, cmE6, cmE7] 8)) = .ok () (w.alloc (.map #[cmE0, cmE1, cmE2, cmE3, cmE4, cmE5, cmE6, cmE7, cmE8] 9)) := push_alloc w _ 9 117 8 #[cmE0, cmE1, cmE2, cmE3, cmE4, cmE5, cmE6, cmE7] _ _ Tryz.underlying119 Tryz.underlying9 (by intro e he; simp at he; rcases he with rfl | rfl | rfl | rfl | rfl | rfl | rfl | rfl <;> exact ⟨_, rfl⟩) (by rfl)
  have p9 : (Instr.mapUpdate 119 (.map (some w.heap.size)) (.string ⟨#[99, 117, 116]⟩) (.agg #[.int .i64 (1), .func (.func 83) #[] #[]])).run Tryz.prog (w.alloc (.map #[cmE0, cmE1, cmE2, cmE3, cmE4, cmE5, cmE6, cmE7, cmE8] 9)) = .ok () (w.alloc (.map #[cmE0, cmE1, cmE2, cmE3, cmE4, cmE5, cmE6, cmE7, cmE8, cmE9] 10)) := push_alloc w _ 9 117 9 #[cmE0, cmE1, cmE2, cmE3, cmE4, cmE5, cmE6, cmE7, cmE8] _ _ Tryz.underlying119 Tryz.underlying9 (by intro e he; simp at he; rcases he with rfl | rfl | rfl | rfl | rfl | rfl | rfl | rfl | rfl <;> exact ⟨_, rfl⟩) (by rfl)
  have p10 : (Instr.mapUpdate 119 (.map (some w.heap.size)) (.string ⟨#[114, 101, 99, 111, 118, 101, 114]⟩) (.agg #[.int .i64 (0), .func (.func 84) #[] #[]])).run Tryz.prog (w.alloc (.map #[cmE0, cmE1, cmE2, cmE3, cmE4, cmE5, cmE6, cmE7, cmE8, cmE9] 10)) = .ok () (w.alloc (.map #[cmE0, cmE1, cmE2, cmE3, cmE4, cmE5, cmE6, cmE7, cmE8, cmE9, cmE10] 11)) := push_alloc w _ 9 117 10 #[cmE0, cmE1, cmE2, cmE3, cmE4, cmE5, cmE6, cmE7, cmE8, cmE9] _ _ Tryz.underlying119 Tryz.underlying9 (by intro e he; simp at he; rcases he with rfl | rfl | rfl | rfl | rfl | rfl | rfl | rfl | rfl | rfl <;> exact ⟨_, rfl⟩) (by rfl)
  go_enter Tryz.func51, Tryz.ntmps51
  go_wp2_with fail
  go_ret
  exact ⟨rfl, rfl⟩
end Go.Proofs.YtppkeophochgiaaGreatDoor
/- Rows of structs of two cells: their cells one by one; a row of the call's own that is stored into, cleared behind a place, cut. -/
namespace Go.Proofs.YtppkeophochgiaaGreatDoor
open Go.RowKit
set_option linter.unusedVariables false

section
variable {α : Type} (f g : α → Value)
def rowc (l : List α) : List Value := l.flatMap fun x => [f x, g x]
theorem rowc_nil : rowc f g [] = [] := rfl
theorem rowc_cons (x : α) (l : List α) : rowc f g (x :: l) = [f x, g x] ++ rowc f g l := rfl
theorem rowc_append (l m : List α) : rowc f g (l ++ m) = rowc f g l ++ rowc f g m := by unfold rowc; exact List.flatMap_append
theorem rowc_len (l : List α) : (rowc f g l).length = l.length * 2 := by
  induction l with
  | nil => rfl
  | cons k l ih => rw [rowc_cons, List.length_append, ih]; simp; omega
theorem rowc_get (l : List α) (k : Nat) (h : k < l.length) : (rowc f g l)[k * 2]? = some (f l[k]) ∧ (rowc f g l)[k * 2 + 1]? = some (g l[k]) := by
  induction l generalizing k with
  | nil => simp at h
  | cons o l ih =>
    rw [rowc_cons]
    match k with
    | 0 => exact ⟨rfl, rfl⟩
    | k + 1 =>
      obtain ⟨h1, h2⟩ := ih k (by simpa using h)
      refine ⟨?_, ?_⟩
      · rw [show (k + 1) * 2 = 2 + k * 2 by omega]; rw [List.getElem?_append_right (by simp)]; simpa using h1
      · rw [show (k + 1) * 2 + 1 = 2 + (k * 2 + 1) by omega]; rw [List.getElem?_append_right (by simp)]; simpa using h2
theorem rowc_set (l : List α) (k : Nat) (x : α) : ((rowc f g l).set (k * 2) (f x)).set (k * 2 + 1) (g x) = rowc f g (l.set k x) := by
  induction l generalizing k with
  | nil => rfl
  | cons o l ih =>
    rw [rowc_cons]
    match k with
    | 0 => rfl
    | k + 1 =>
      rw [List.set_cons_succ, rowc_cons, ← ih k, show (k + 1) * 2 + 1 = (k * 2 + 1) + 2 by omega, show (k + 1) * 2 = k * 2 + 2 by omega]
      rfl
theorem rowc_take (l : List α) (k : Nat) : (rowc f g l).take (k * 2) = rowc f g (l.take k) := by
  induction l generalizing k with
  | nil => simp [rowc_nil]
  | cons o l ih =>
    match k with
    | 0 => simp [rowc_nil]
    | k + 1 =>
      rw [List.take_succ_cons, rowc_cons, rowc_cons, ← ih k, show (k + 1) * 2 = k * 2 + 2 by omega]
      rfl
theorem rowc_oneCell (h : ∀ x, (f x).oneCell' = true ∧ (g x).oneCell' = true) (l : List α) : ∀ u ∈ rowc f g l, u.oneCell' = true := by
  intro u hu
  obtain ⟨x, _, hx⟩ := List.mem_flatMap.1 hu
  simp at hx
  rcases hx with rfl | rfl
  · exact (h x).1
  · exact (h x).2
/-- an element stored into a row of the call's own -/
theorem own2_store {w : World} {base g0 cap n : Nat} {e : TypeId} {l : List α} (h : w.ownsRow base e 2 (.slice (some ⟨g0, 0, none⟩) n cap) n (rowc f g l)) (k : Nat) (x : α) :
    ((w.setCell ⟨g0, k * 2, none⟩ (f x)).setCell ⟨g0, k * 2 + 1, none⟩ (g x)).ownsRow base e 2 (.slice (some ⟨g0, 0, none⟩) n cap) n (rowc f g (l.set k x)) := by
  have h1 := (h.stored (k * 2) (f x)).1
  have h2 := (h1.stored (k * 2 + 1) (g x)).1
  rw [rowc_set] at h2
  exact h2
/-- cut at a place -/
theorem own_cut {w : World} {base g0 cap n k size : Nat} {e : TypeId} {xs : List Value} (h : w.ownsRow base e size (.slice (some ⟨g0, 0, none⟩) n cap) n xs) (hk : k ≤ n) : w.ownsRow base e size (.slice (some ⟨g0, 0, none⟩) k cap) k (xs.take (k * size)) := by
  obtain ⟨h1, h2⟩ := h
  rcases h2 with ⟨h2, _⟩ | ⟨g', cap', cur, hv, hg, hh, h3, h4, h5, h6⟩
  · cases h2
  · cases hv
    refine ⟨by rw [List.length_take, h1]; exact Nat.min_eq_left (Nat.mul_le_mul_right _ hk), .inr ⟨g0, cap, cur, rfl, hg, hh, by omega, h4, h5, ?_⟩⟩
    rw [← h6, List.take_take, Nat.min_eq_left (Nat.mul_le_mul_right _ hk)]
/-- 'clear' behind a place of a row of the call's own: the row ahead of it stands -/
theorem run_clear_own {P : Program} {w : World} {base g0 cap n k size : Nat} {t e : TypeId} {z : Value} {xs : List Value} (h : w.ownsRow base e size (.slice (some ⟨g0, 0, none⟩) n cap) n xs) (hk : k ≤ n) (hs : 0 < size)
    (ht : P.underlying t = some (.slice e)) (hv : (zeroValue e).run P w = .ok z w) (hz : z.cells.size = size) (h1 : ∀ u ∈ z.cells.toList, u.oneCell' = true) :
    ∃ w', (∀ ty, (Builtin.clear_ #[t] ty #[.slice (some ⟨g0, k * size, none⟩) (n - k) (cap - k)]).run P w = .ok (.tuple #[]) w') ∧ w'.ownsRow base e size (.slice (some ⟨g0, 0, none⟩) k cap) k (xs.take (k * size)) ∧ w.grownBy w' (some g0) := by
  by_cases hnk : n - k = 0
  · have : n = k := by omega
    subst this
    refine ⟨w, ?_, own_cut h (Nat.le_refl _), ⟨rfl, rfl, rfl, Nat.le_refl _, fun _ _ _ => rfl⟩⟩
    intro ty
    simp [Builtin.clear_, run_underlying ht]
  · obtain ⟨h1', h2⟩ := h
    rcases h2 with ⟨h2, _⟩ | ⟨g', cap', cur, hv', hg, hh, h3, h4, h5, h6⟩
    · cases h2
    · cases hv'
      have hzl : (Builtin.zeroCells z.cells (n - k)).size = (n - k) * size := by rw [size_zeroCells, hz]
      have h3m := Nat.mul_le_mul_right size h3
      have hkm := Nat.mul_le_mul_right size hk
      have hsub : (n - k) * size = n * size - k * size := Nat.sub_mul _ _ _
      have hst := run_storeCells_at P g0 (k * size) e (Builtin.zeroCells z.cells (n - k)).toList 0 cur w hh (by rw [Array.length_toList, hzl, h5]; omega) (by
        intro u hu
        have hu' := Array.mem_toList_iff.1 hu
        simp only [Builtin.zeroCells, Array.mem_map, Array.mem_range] at hu'
        obtain ⟨i, hi, rfl⟩ := hu'
        have hlt : i % z.cells.size < z.cells.size := Nat.mod_lt _ (by rw [hz]; exact hs)
        rw [getElem!_pos z.cells _ hlt]
        exact h1 _ (by simp))
      obtain ⟨m, hm⟩ : ∃ m, n - k = m + 1 := ⟨n - k - 1, by omega⟩
      simp only [Nat.add_zero] at hst
      generalize hR : (cur.toList.take (k * size) ++ (Builtin.zeroCells z.cells (n - k)).toList ++ cur.toList.drop (k * size + (Builtin.zeroCells z.cells (n - k)).toList.length)).toArray = R at hst
      refine ⟨w.setRow g0 R, ?_, ⟨by rw [List.length_take, h1']; exact Nat.min_eq_left hkm, .inr ⟨g0, cap, R, rfl, hg, setRow_heap w g0 cur _ e _ hh, by omega, h4, ?_, ?_⟩⟩, ⟨rfl, rfl, rfl, by simp, fun x _ hx => setRow_other w g0 x _ (fun e => hx (by rw [e]))⟩⟩
      · intro ty
        rw [hm] at hst ⊢
        simp [Builtin.clear_, run_underlying ht, hv, hst]
      · rw [← hR]
        simp only [List.size_toArray, List.length_append, List.length_take, List.length_drop, Array.length_toList, hzl]
        omega
      · rw [← hR, List.append_assoc, List.take_left' (by rw [List.length_take, Array.length_toList]; omega), ← h6, List.take_take, Nat.min_eq_left hkm]
end
theorem own_other {w w' : World} {base : Nat} {e : TypeId} {size : Nat} {v : Value} {n : Nat} {xs : List Value} {S : Nat → Prop} (h : w.ownsRow base e size v n xs) (hc : Chg w w' S) (hs : ∀ x, v.ownBlock = some x → ¬ S x) : w'.ownsRow base e size v n xs := by
  obtain ⟨h1, h2⟩ := h
  refine ⟨h1, ?_⟩
  rcases h2 with h2 | ⟨g, cap, cur, hv, hg, hh, h3⟩
  · exact .inl h2
  · subst hv
    exact .inr ⟨g, cap, cur, rfl, hg, (hc.block g (lt_of_block hh) (hs g rfl)).trans hh, h3⟩
end Go.Proofs.YtppkeophochgiaaGreatDoor
