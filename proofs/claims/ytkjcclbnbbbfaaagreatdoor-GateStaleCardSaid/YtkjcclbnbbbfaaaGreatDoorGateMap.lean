/- A gate's map: names, each with its last epoch. -/
import Derived.Test.YtkjcclbnbbbfaaaGreatDoorMem
import Derived.Test.YtkjcclbnbbbfaaaGreatDoorChg
import Derived.Maps.OwnSet
import Derived.Maps.Views
namespace Go.Proofs.YtkjcclbnbbbfaaaGreatDoor
open Go.RowKit
set_option linter.unusedVariables false

abbrev GM := List (List UInt8 × Nat)
/-- the last epoch of a name (0: none) -/
def glk : GM → List UInt8 → Nat
  | [], _ => 0
  | p :: m, k => if p.1 = k then p.2 else glk m k
def ghas (m : GM) (k : List UInt8) : Bool := m.any fun p => decide (p.1 = k)
/-- a name's epoch is set -/
def gput : GM → List UInt8 → Nat → GM
  | [], k, v => [(k, v)]
  | p :: m, k, v => if p.1 = k then (k, v) :: m else p :: gput m k v
theorem glk_same (m : GM) (k : List UInt8) (v : Nat) : glk (gput m k v) k = v := by
  induction m with
  | nil => simp [gput, glk]
  | cons p m ih =>
    unfold gput
    by_cases h : p.1 = k
    · rw [if_pos h]; simp [glk]
    · rw [if_neg h]; unfold glk; rw [if_neg h]; exact ih
theorem glk_other (m : GM) {k k' : List UInt8} (v : Nat) (h : k' ≠ k) : glk (gput m k v) k' = glk m k' := by
  induction m with
  | nil =>
    have h2 : k ≠ k' := fun e => h e.symm
    simp [gput, glk, h2]
  | cons p m ih =>
    unfold gput
    by_cases hp : p.1 = k
    · rw [if_pos hp]
      unfold glk
      rw [if_neg (fun e => h (by rw [← e])), if_neg (fun e => h (by rw [← e, hp]))]
    · rw [if_neg hp]
      unfold glk
      by_cases hk : p.1 = k'
      · rw [if_pos hk, if_pos hk]
      · rw [if_neg hk, if_neg hk]; exact ih
theorem ghas_same (m : GM) (k : List UInt8) (v : Nat) : ghas (gput m k v) k = true := by
  induction m with
  | nil => simp [gput, ghas]
  | cons p m ih =>
    unfold gput
    by_cases h : p.1 = k
    · rw [if_pos h]; simp [ghas]
    · rw [if_neg h]
      unfold ghas at ih ⊢
      rw [List.any_cons, ih]; simp
theorem ghas_other (m : GM) {k k' : List UInt8} (v : Nat) (h : k' ≠ k) : ghas (gput m k v) k' = ghas m k' := by
  induction m with
  | nil =>
    unfold gput ghas
    have h1 : decide (k = k') = false := by simpa using fun e : k = k' => h e.symm
    simp only [List.any_cons, h1, List.any_nil, Bool.or_false]
  | cons p m ih =>
    unfold gput
    by_cases hp : p.1 = k
    · rw [if_pos hp]
      unfold ghas
      rw [List.any_cons, List.any_cons]
      have h1 : decide (k = k') = false := by simpa using fun e : k = k' => h e.symm
      have h2 : decide (p.1 = k') = false := by simpa [hp] using fun e : k = k' => h e.symm
      simp only [h1, h2]
    · rw [if_neg hp]
      unfold ghas at ih ⊢
      rw [List.any_cons, List.any_cons, ih]
/-- names that are there have an epoch; each once -/
structure GOk (m : GM) : Prop where
  pos : ∀ p ∈ m, 1 ≤ p.2
  nd : (m.map Prod.fst).Nodup
theorem glk_zero {m : GM} (h : GOk m) (k : List UInt8) : glk m k = 0 ↔ ghas m k = false := by
  have hp := h.pos
  clear h
  induction m with
  | nil => simp [glk, ghas]
  | cons p m ih =>
    have ih2 : glk m k = 0 ↔ (m.any fun p => decide (p.1 = k)) = false := ih (fun q hq => hp q (by simp [hq]))
    unfold glk ghas
    rw [List.any_cons]
    by_cases hk : p.1 = k
    · have := hp p (by simp)
      rw [if_pos hk]
      simp only [hk, decide_true, Bool.true_or]
      constructor
      · intro e; omega
      · intro e; cases e
    · rw [if_neg hk, ih2]
      simp only [hk, decide_false, Bool.false_or]
theorem gput_fst (m : GM) (k : List UInt8) (v : Nat) : (gput m k v).map Prod.fst = if ghas m k then m.map Prod.fst else m.map Prod.fst ++ [k] := by
  induction m with
  | nil => simp [gput, ghas]
  | cons p m ih =>
    unfold gput
    by_cases hk : p.1 = k
    · rw [if_pos hk]; simp [ghas, hk]
    · rw [if_neg hk, List.map_cons, ih]
      have e : ghas (p :: m) k = ghas m k := by simp [ghas, hk]
      rw [e]
      split <;> simp
theorem ghas_mem (m : GM) (k : List UInt8) : ghas m k = true ↔ k ∈ m.map Prod.fst := by
  unfold ghas; simp
theorem GOk.put {m : GM} (h : GOk m) {k : List UInt8} {v : Nat} (hv : 1 ≤ v) : GOk (gput m k v) := by
  refine ⟨?_, ?_⟩
  · have hp := h.pos
    clear h
    induction m with
    | nil => intro p hp; simp [gput] at hp; rw [hp]; exact hv
    | cons q m ih =>
      intro p hm
      unfold gput at hm
      by_cases hq : q.1 = k
      · rw [if_pos hq] at hm
        rcases List.mem_cons.1 hm with rfl | hm
        · exact hv
        · exact hp p (by simp [hm])
      · rw [if_neg hq] at hm
        rcases List.mem_cons.1 hm with rfl | hm
        · exact hp p (by simp)
        · exact ih (fun r hr => hp r (by simp [hr])) p hm
  · rw [gput_fst]
    split
    · exact h.nd
    · rename_i hk
      rw [List.nodup_append]
      refine ⟨h.nd, by simp, fun a ha b hb => ?_⟩
      simp only [List.mem_singleton] at hb
      subst hb
      rintro rfl
      exact hk ((ghas_mem m a).2 ha)
theorem gput_len (m : GM) (k : List UInt8) (v : Nat) : (gput m k v).length = if ghas m k then m.length else m.length + 1 := by
  have := congrArg List.length (gput_fst m k v)
  rw [List.length_map] at this
  rw [this]
  split <;> simp
theorem glk_mem {m : GM} (h : (m.map Prod.fst).Nodup) {p : List UInt8 × Nat} (hp : p ∈ m) : glk m p.1 = p.2 := by
  induction m with
  | nil => simp at hp
  | cons q m ih =>
    rw [List.map_cons, List.nodup_cons] at h
    unfold glk
    rcases List.mem_cons.1 hp with rfl | hp
    · rw [if_pos rfl]
    · rw [if_neg (fun e => h.1 (by rw [e]; exact List.mem_map_of_mem hp))]
      exact ih h.2 hp
theorem gput_mem {m : GM} {k : List UInt8} {v : Nat} {p : List UInt8 × Nat} (hp : p ∈ gput m k v) : p = (k, v) ∨ p ∈ m := by
  induction m with
  | nil => simp [gput] at hp; exact .inl hp
  | cons q m ih =>
    unfold gput at hp
    by_cases hq : q.1 = k
    · rw [if_pos hq] at hp
      rcases List.mem_cons.1 hp with rfl | hp
      · exact .inl rfl
      · exact .inr (by simp [hp])
    · rw [if_neg hq] at hp
      rcases List.mem_cons.1 hp with rfl | hp
      · exact .inr (by simp)
      · exact (ih hp).imp id (fun h => by simp [h])

/-! ### in memory -/
def GMapIs (w : World) (b n : Nat) (m : GM) : Prop :=
  ∃ D : DataW Unit, w.ownsMap Tryz.prog 9 (plainElem Tryz.prog 3) b n D ∧
    (∀ k : List UInt8, Maps.has D (.string k) = ghas m k ∧ D.atKey (.string k) (.lit (.int .i64 0)) = .lit (.int .i64 (glk m k : Nat))) ∧ Maps.size D = m.length
theorem GMapIs.made (w : World) : GMapIs (w.alloc (.map #[] 0)) w.heap.size 0 [] :=
  ⟨.map [], World.ownsMap_made w _ _ _, fun k => ⟨rfl, rfl⟩, rfl⟩
theorem GMapIs.lt {w : World} {b n : Nat} {m : GM} (h : GMapIs w b n m) : b < w.heap.size := by obtain ⟨D, h, _⟩ := h; exact h.lt
theorem GMapIs.kept {w w' : World} {b n : Nat} {m : GM} (h : GMapIs w b n m) (hb : w'.heap[b]? = w.heap[b]?) : GMapIs w' b n m := by
  obtain ⟨D, ⟨es, clock, h1, h2⟩, h3⟩ := h
  exact ⟨D, ⟨es, clock, hb.trans h1, h2⟩, h3⟩
theorem GMapIs.mono {w : World} {b n : Nat} {m : GM} (h : GMapIs w b n m) {n' : Nat} (hn : n ≤ n') : GMapIs w b n' m := by
  obtain ⟨D, h1, h2⟩ := h
  exact ⟨D, h1.mono hn, h2⟩
theorem gkeyed : Maps.Keyed Tryz.prog 9 := Maps.string_keyed Tryz.underlying9
theorem gkey_of {k : List UInt8} (h : k.length ≤ maxLen) : keyOf Tryz.prog 9 (.string (bs k)) = some (.string k) := by
  have := WideMaps.keyOf_string_mk (P := Tryz.prog) Tryz.underlying9 (s := bs k) (by rw [bs_size]; exact h)
  rwa [bs_list] at this
theorem gkeyLit (k : List UInt8) : WideAt.IsKeyLit (.string k) := by trivial
set_option maxRecDepth 100000 in
/-- 'm[k]' -/
theorem GMapIs.look {w : World} {b n : Nat} {m : GM} (h : GMapIs w b n m) {k : List UInt8} (hk : k.length ≤ maxLen) :
    (Instr.lookup 94 (.map (some b)) (.string (bs k)) false).run Tryz.prog w = .ok (.int .i64 (glk m k : Nat)) w := by
  obtain ⟨D, h1, h2, _⟩ := h
  obtain ⟨c, hr, hv, _⟩ := h1.lookup_int gkeyed Tryz.underlying94 Tryz.underlying3 (by kernel_rfl) (gkey_of hk)
  rw [(h2 k).2] at hv
  have : c = (glk m k : Nat) := by simpa using hv.symm
  subst this
  exact hr
set_option maxRecDepth 100000 in
theorem GMapIs.store {w : World} {b n : Nat} {m : GM} (h : GMapIs w b n m) {k : List UInt8} (hk : k.length ≤ maxLen) {v : Nat} (hv : v ≤ 9223372036854775807) (hn : n < maxLen) :
    ∃ w', (Instr.mapUpdate 94 (.map (some b)) (.string (bs k)) (.int .i64 v)).run Tryz.prog w = .ok () w' ∧ GMapIs w' b (n + 1) (gput m k v) ∧ w.mapTurned w' b := by
  obtain ⟨D, h1, h2, h3⟩ := h
  obtain ⟨w', hr, ho, ht⟩ := h1.store gkeyed Tryz.underlying94 hn (gkey_of hk) (plainElem_int Tryz.underlying3 (a := (v : Int)) (WalkArith.wf_i64 (by omega)))
  refine ⟨w', hr, ⟨_, ho, fun k' => ?_, ?_⟩, ht⟩
  · by_cases e : k' = k
    · subst e
      rw [Maps.has_put_same h1.isMap (gkeyLit k'), Maps.atKey_put_same h1.isMap (gkeyLit k'), glk_same, ghas_same]
      exact ⟨rfl, rfl⟩
    · have ne : Lit.string k' ≠ .string k := fun h => e (by injection h)
      rw [Maps.has_put_other ne, Maps.atKey_put_other ne, glk_other m v e, ghas_other m v e]
      exact h2 k'
  · rw [Maps.size_put (h1.tidy gkeyed), (h2 k).1, h3, gput_len]
end Go.Proofs.YtkjcclbnbbbfaaaGreatDoor
