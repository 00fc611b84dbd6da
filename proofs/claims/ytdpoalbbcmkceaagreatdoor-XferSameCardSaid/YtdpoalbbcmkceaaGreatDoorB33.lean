/- Texts of one proof, one behind the other: GateMap, XferMap. -/
import Derived.Test.YtdpoalbbcmkceaaGreatDoorB06
import Derived.Test.YtdpoalbbcmkceaaGreatDoorB16
import Derived.Maps.OwnSet
import Derived.Maps.Views
import Derived.Test.YtdpoalbbcmkceaaGreatDoorB11
import Derived.Test.YtdpoalbbcmkceaaGreatDoorB32
import Derived.Sort.Walk0
import Derived.Sort.KeysCollected
/- A gate's map: names, each with its last epoch. -/
namespace Go.Proofs.YtdpoalbbcmkceaaGreatDoor
open Go.RowKit
set_option linter.unusedVariables false

abbrev GM := List (List UInt8 × Nat)
/-- the last epoch of a name (0: none) -/
def glk : GM → List UInt8 → Nat
  | [], _ => 0
  | p :: m, k => if p.1 = k then p.2 else glk m k
def ghas (m : GM) (k : List UInt8) : Bool := m.any fun p => decide (p.1 = k)
/-- a name's epoch is set -/
def gput : GM → List UInt8 → Nat → GM
  | [], k, v => [(k, v)]
  | p :: m, k, v => if p.1 = k then (k, v) :: m else p :: gput m k v
theorem glk_same (m : GM) (k : List UInt8) (v : Nat) : glk (gput m k v) k = v := by
  induction m with
  | nil => simp [gput, glk]
  | cons p m ih =>
    unfold gput
    by_cases h : p.1 = k
    · rw [if_pos h]; simp [glk]
    · rw [if_neg h]; unfold glk; rw [if_neg h]; exact ih
theorem glk_other (m : GM) {k k' : List UInt8} (v : Nat) (h : k' ≠ k) : glk (gput m k v) k' = glk m k' := by
  induction m with
  | nil =>
    have h2 : k ≠ k' := fun e => h e.symm
    simp [gput, glk, h2]
  | cons p m ih =>
    unfold gput
    by_cases hp : p.1 = k
    · rw [if_pos hp]
      unfold glk
      rw [if_neg (fun e => h (by rw [← e])), if_neg (fun e => h (by rw [← e, hp]))]
    · rw [if_neg hp]
      unfold glk
      by_cases hk : p.1 = k'
      · rw [if_pos hk, if_pos hk]
      · rw [if_neg hk, if_neg hk]; exact ih
theorem ghas_same (m : GM) (k : List UInt8) (v : Nat) : ghas (gput m k v) k = true := by
  induction m with
  | nil => simp [gput, ghas]
  | cons p m ih =>
    unfold gput
    by_cases h : p.1 = k
    · rw [if_pos h]; simp [ghas]
    · rw [if_neg h]
      unfold ghas at ih ⊢
      rw [List.any_cons, ih]; simp
theorem ghas_other (m : GM) {k k' : List UInt8} (v : Nat) (h : k' ≠ k) : ghas (gput m k v) k' = ghas m k' := by
  induction m with
  | nil =>
    unfold gput ghas
    have h1 : decide (k = k') = false := by simpa using fun e : k = k' => h e.symm
    simp only [List.any_cons, h1, List.any_nil, Bool.or_false]
  | cons p m ih =>
    unfold gput
    by_cases hp : p.1 = k
    · rw [if_pos hp]
      unfold ghas
      rw [List.any_cons, List.any_cons]
      have h1 : decide (k = k') = false := by simpa using fun e : k = k' => h e.symm
      have h2 : decide (p.1 = k') = false := by simpa [hp] using fun e : k = k' => h e.symm
      simp only [h1, h2]
    · rw [if_neg hp]
      unfold ghas at ih ⊢
      rw [List.any_cons, List.any_cons, ih]
/-- names that are there have an epoch; each once -/
structure GOk (m : GM) : Prop where
  pos : ∀ p ∈ m, 1 ≤ p.2
  nd : (m.map Prod.fst).Nodup
theorem glk_zero {m : GM} (h : GOk m) (k : List UInt8) : glk m k = 0 ↔ ghas m k = false := by
  have hp := h.pos
  clear h
  induction m with
  | nil => simp [glk, ghas]
  | cons p m ih =>
    have ih2 : glk m k = 0 ↔ (m.any fun p => decide (p.1 = k)) = false := ih (fun q hq => hp q (by simp [hq]))
    unfold glk ghas
    rw [List.any_cons]
    by_cases hk : p.1 = k
    · have := hp p (by simp)
      rw [if_pos hk]
      simp only [hk, decide_true, Bool.true_or]
      constructor
      · intro e; omega
      · intro e; cases e
    · rw [if_neg hk, ih2]
      simp only [hk, decide_false, Bool.false_or]
theorem gput_fst (m : GM) (k : List UInt8) (v : Nat) : (gput m k v).map Prod.fst = if ghas m k then m.map Prod.fst else m.map Prod.fst ++ [k] := by
  induction m with
  | nil => simp [gput, ghas]
  | cons p m ih =>
    unfold gput
    by_cases hk : p.1 = k
    · rw [if_pos hk]; simp [ghas, hk]
    · rw [if_neg hk, List.map_cons, ih]
      have e : ghas (p :: m) k = ghas m k := by simp [ghas, hk]
      rw [e]
      split <;> simp
theorem ghas_mem (m : GM) (k : List UInt8) : ghas m k = true ↔ k ∈ m.map Prod.fst := by
  unfold ghas; simp
theorem GOk.put {m : GM} (h : GOk m) {k : List UInt8} {v : Nat} (hv : 1 ≤ v) : GOk (gput m k v) := by
  refine ⟨?_, ?_⟩
  · have hp := h.pos
    clear h
    induction m with
    | nil => intro p hp; simp [gput] at hp; rw [hp]; exact hv
    | cons q m ih =>
      intro p hm
      unfold gput at hm
      by_cases hq : q.1 = k
      · rw [if_pos hq] at hm
        rcases List.mem_cons.1 hm with rfl | hm
        · exact hv
        · exact hp p (by simp [hm])
      · rw [if_neg hq] at hm
        rcases List.mem_cons.1 hm with rfl | hm
        · exact hp p (by simp)
        · exact ih (fun r hr => hp r (by simp [hr])) p hm
  · rw [gput_fst]
    split
    · exact h.nd
    · rename_i hk
      rw [List.nodup_append]
      refine ⟨h.nd, by simp, fun a ha b hb => ?_⟩
      simp only [List.mem_singleton] at hb
      subst hb
      rintro rfl
      exact hk ((ghas_mem m a).2 ha)
theorem gput_len (m : GM) (k : List UInt8) (v : Nat) : (gput m k v).length = if ghas m k then m.length else m.length + 1 := by
  have := congrArg List.length (gput_fst m k v)
  rw [List.length_map] at this
  rw [this]
  split <;> simp
theorem glk_mem {m : GM} (h : (m.map Prod.fst).Nodup) {p : List UInt8 × Nat} (hp : p ∈ m) : glk m p.1 = p.2 := by
  induction m with
  | nil => simp at hp
  | cons q m ih =>
    rw [List.map_cons, List.nodup_cons] at h
    unfold glk
    rcases List.mem_cons.1 hp with rfl | hp
    · rw [if_pos rfl]
    · rw [if_neg (fun e => h.1 (by rw [e]; exact List.mem_map_of_mem hp))]
      exact ih h.2 hp
theorem gput_mem {m : GM} {k : List UInt8} {v : Nat} {p : List UInt8 × Nat} (hp : p ∈ gput m k v) : p = (k, v) ∨ p ∈ m := by
  induction m with
  | nil => simp [gput] at hp; exact .inl hp
  | cons q m ih =>
    unfold gput at hp
    by_cases hq : q.1 = k
    · rw [if_pos hq] at hp
      rcases List.mem_cons.1 hp with rfl | hp
      · exact .inl rfl
      · exact .inr (by simp [hp])
    · rw [if_neg hq] at hp
      rcases List.mem_cons.1 hp with rfl | hp
      · exact .inr (by simp)
      · exact (ih hp).imp id (fun h => by simp [h])

/-! ### in memory -/
def GMapIs (w : World) (b n : Nat) (m : GM) : Prop :=
  ∃ D : DataW Unit, w.ownsMap Tryz.prog 9 (plainElem Tryz.prog 3) b n D ∧
    (∀ k : List UInt8, Maps.has D (.string k) = ghas m k ∧ D.atKey (.string k) (.lit (.int .i64 0)) = .lit (.int .i64 (glk m k : Nat))) ∧ Maps.size D = m.length
theorem GMapIs.made (w : World) : GMapIs (w.alloc (.map #[] 0)) w.heap.size 0 [] :=
  ⟨.map [], World.ownsMap_made w _ _ _, fun k => ⟨rfl, rfl⟩, rfl⟩
theorem GMapIs.lt {w : World} {b n : Nat} {m : GM} (h : GMapIs w b n m) : b < w.heap.size := by obtain ⟨D, h, _⟩ := h; exact h.lt
theorem GMapIs.kept {w w' : World} {b n : Nat} {m : GM} (h : GMapIs w b n m) (hb : w'.heap[b]? = w.heap[b]?) : GMapIs w' b n m := by
  obtain ⟨D, ⟨es, clock, h1, h2⟩, h3⟩ := h
  exact ⟨D, ⟨es, clock, hb.trans h1, h2⟩, h3⟩
theorem GMapIs.mono {w : World} {b n : Nat} {m : GM} (h : GMapIs w b n m) {n' : Nat} (hn : n ≤ n') : GMapIs w b n' m := by
  obtain ⟨D, h1, h2⟩ := h
  exact ⟨D, h1.mono hn, h2⟩
theorem gkeyed : Maps.Keyed Tryz.prog 9 := Maps.string_keyed Tryz.underlying9
theorem gkey_of {k : List UInt8} (h : k.length ≤ maxLen) : keyOf Tryz.prog 9 (.string (bs k)) = some (.string k) := by
  have := WideMaps.keyOf_string_mk (P := Tryz.prog) Tryz.underlying9 (s := bs k) (by rw [bs_size]; exact h)
  rwa [bs_list] at this
theorem gkeyLit (k : List UInt8) : WideAt.IsKeyLit (.string k) := by trivial
set_option maxRecDepth 100000 in
/-- 'm[k]' -/
theorem GMapIs.look {w : World} {b n : Nat} {m : GM} (h : GMapIs w b n m) {k : List UInt8} (hk : k.length ≤ maxLen) :
    (Instr.lookup 75 (.map (some b)) (.string (bs k)) false).run Tryz.prog w = .ok (.int .i64 (glk m k : Nat)) w := by
  obtain ⟨D, h1, h2, _⟩ := h
  obtain ⟨c, hr, hv, _⟩ := h1.lookup_int gkeyed Tryz.underlying75 Tryz.underlying3 (by kernel_rfl) (gkey_of hk)
  rw [(h2 k).2] at hv
  have : c = (glk m k : Nat) := by simpa using hv.symm
  subst this
  exact hr
set_option maxRecDepth 100000 in
theorem GMapIs.store {w : World} {b n : Nat} {m : GM} (h : GMapIs w b n m) {k : List UInt8} (hk : k.length ≤ maxLen) {v : Nat} (hv : v ≤ 9223372036854775807) (hn : n < maxLen) :
    ∃ w', (Instr.mapUpdate 75 (.map (some b)) (.string (bs k)) (.int .i64 v)).run Tryz.prog w = .ok () w' ∧ GMapIs w' b (n + 1) (gput m k v) ∧ w.mapTurned w' b := by
  obtain ⟨D, h1, h2, h3⟩ := h
  obtain ⟨w', hr, ho, ht⟩ := h1.store gkeyed Tryz.underlying75 hn (gkey_of hk) (plainElem_int Tryz.underlying3 (a := (v : Int)) (WalkArith.wf_i64 (by omega)))
  refine ⟨w', hr, ⟨_, ho, fun k' => ?_, ?_⟩, ht⟩
  · by_cases e : k' = k
    · subst e
      rw [Maps.has_put_same h1.isMap (gkeyLit k'), Maps.atKey_put_same h1.isMap (gkeyLit k'), glk_same, ghas_same]
      exact ⟨rfl, rfl⟩
    · have ne : Lit.string k' ≠ .string k := fun h => e (by injection h)
      rw [Maps.has_put_other ne, Maps.atKey_put_other ne, glk_other m v e, ghas_other m v e]
      exact h2 k'
  · rw [Maps.size_put (h1.tidy gkeyed), (h2 k).1, h3, gput_len]
end Go.Proofs.YtdpoalbbcmkceaaGreatDoor
/- Plain laws of gates: the package's map in any order, the document's list by names; their texts. No program is in sight. -/
namespace Go.Proofs.YtdpoalbbcmkceaaGreatDoor
open Go.RowKit
set_option linter.unusedVariables false

/-- the document's way to set a name's epoch: by names -/
def gset : GM → List UInt8 → Nat → GM
  | [], k, v => [(k, v)]
  | p :: l, k, v => if ltL p.1 k = true then p :: gset l k v else if p.1 = k then (k, v) :: l else (k, v) :: p :: l
def GSrt (l : GM) : Prop := l.Pairwise fun a b => ltL a.1 b.1 = true
theorem GSrt.nodup {l : GM} (h : GSrt l) : (l.map Prod.fst).Nodup := by
  unfold List.Nodup
  rw [List.pairwise_map]
  exact List.Pairwise.imp (fun h => ltL_ne h) h
theorem gset_mem {l : GM} {k : List UInt8} {v : Nat} {p : List UInt8 × Nat} (hp : p ∈ gset l k v) : p = (k, v) ∨ p ∈ l := by
  induction l with
  | nil => simp [gset] at hp; exact .inl hp
  | cons q l ih =>
    unfold gset at hp
    split at hp
    · rcases List.mem_cons.1 hp with rfl | hp
      · exact .inr (by simp)
      · exact (ih hp).imp id (fun h => by simp [h])
    · split at hp
      · rcases List.mem_cons.1 hp with rfl | hp
        · exact .inl rfl
        · exact .inr (by simp [hp])
      · rcases List.mem_cons.1 hp with rfl | hp
        · exact .inl rfl
        · exact .inr hp
theorem gset_srt {l : GM} (h : GSrt l) (k : List UInt8) (v : Nat) : GSrt (gset l k v) := by
  induction l with
  | nil => exact List.pairwise_singleton _ _
  | cons q l ih =>
    obtain ⟨h1, h2⟩ := List.pairwise_cons.1 h
    unfold gset
    split
    · rename_i hq
      refine List.pairwise_cons.2 ⟨fun p hp => ?_, ih h2⟩
      rcases gset_mem hp with rfl | hp
      · exact hq
      · exact h1 p hp
    · rename_i hq
      split
      · rename_i he
        refine List.pairwise_cons.2 ⟨fun p hp => ?_, h2⟩
        rw [← he]
        exact h1 p hp
      · rename_i he
        have hk : ltL k q.1 = true := by
          rcases ltL_tri q.1 k with h | h | h
          · exact absurd h hq
          · exact absurd h he
          · exact h
        refine List.pairwise_cons.2 ⟨fun p hp => ?_, h⟩
        rcases List.mem_cons.1 hp with rfl | hp
        · exact hk
        · exact ltL_trans hk (h1 p hp)
theorem gput_new {m : GM} {k : List UInt8} (h : k ∉ m.map Prod.fst) (v : Nat) : gput m k v = m ++ [(k, v)] := by
  induction m with
  | nil => rfl
  | cons p m ih =>
    rw [List.map_cons, List.mem_cons, not_or] at h
    unfold gput
    rw [if_neg (fun e => h.1 e.symm), ih h.2]; rfl
theorem gput_perm {m : GM} (h : (m.map Prod.fst).Nodup) (k : List UInt8) (v : Nat) : (gput m k v).Perm ((k, v) :: m.filter fun p => p.1 != k) := by
  induction m with
  | nil => exact List.Perm.refl _
  | cons p m ih =>
    rw [List.map_cons, List.nodup_cons] at h
    unfold gput
    by_cases hp : p.1 = k
    · rw [if_pos hp]
      have e : (p :: m).filter (fun p => p.1 != k) = m := by
        rw [List.filter_cons_of_neg (by simp [hp])]
        refine List.filter_eq_self.2 fun q hq => ?_
        have : q.1 ≠ k := fun e => h.1 (by rw [hp, ← e]; exact List.mem_map_of_mem hq)
        simpa using this
      rw [e]
    · rw [if_neg hp, List.filter_cons_of_pos (by simpa using hp)]
      exact ((ih h.2).cons p).trans (List.Perm.swap _ _ _)
theorem gset_perm {l : GM} (h : GSrt l) (k : List UInt8) (v : Nat) : (gset l k v).Perm ((k, v) :: l.filter fun p => p.1 != k) := by
  induction l with
  | nil => exact List.Perm.refl _
  | cons p l ih =>
    obtain ⟨h1, h2⟩ := List.pairwise_cons.1 h
    unfold gset
    split
    · rename_i hq
      rw [List.filter_cons_of_pos (by simpa using ltL_ne hq)]
      exact ((ih h2).cons p).trans (List.Perm.swap _ _ _)
    · rename_i hq
      have hrest : ∀ (x : List UInt8), (∀ q ∈ l, ltL x q.1 = true) → l.filter (fun p => p.1 != x) = l := fun x hx => List.filter_eq_self.2 fun q hq => by simpa using (ltL_ne (hx q hq)).symm
      split
      · rename_i he
        rw [List.filter_cons_of_neg (by simp [he]), hrest k (by rw [← he]; exact h1)]
      · rename_i he
        have hk : ltL k p.1 = true := by
          rcases ltL_tri p.1 k with h | h | h
          · exact absurd h hq
          · exact absurd h he
          · exact h
        rw [List.filter_cons_of_pos (by simpa using he), hrest k (fun q hq => ltL_trans hk (h1 q hq))]
theorem perm_nodup {m l : GM} (h : m.Perm l) (hl : (l.map Prod.fst).Nodup) : (m.map Prod.fst).Nodup := (h.map Prod.fst).nodup_iff.2 hl
/-- the two ways to set an epoch agree -/
theorem set_perm {m l : GM} (h : m.Perm l) (hs : GSrt l) (k : List UInt8) (v : Nat) : (gput m k v).Perm (gset l k v) :=
  (gput_perm (perm_nodup h hs.nodup) k v).trans ((((h.filter _).cons _)).trans (gset_perm hs k v).symm)
theorem glk_perm {m l : GM} (h : m.Perm l) (hl : (l.map Prod.fst).Nodup) (k : List UInt8) : glk m k = glk l k := by
  have hm := perm_nodup h hl
  by_cases hk : k ∈ l.map Prod.fst
  · obtain ⟨p, hp, rfl⟩ := List.mem_map.1 hk
    rw [glk_mem hl hp, glk_mem hm (h.mem_iff.2 hp)]
  · have hz : ∀ (x : GM), k ∉ x.map Prod.fst → glk x k = 0 := by
      intro x hx
      induction x with
      | nil => rfl
      | cons q x ih =>
        rw [List.map_cons, List.mem_cons, not_or] at hx
        unfold glk
        rw [if_neg (fun e => hx.1 e.symm)]
        exact ih hx.2
    rw [hz l hk, hz m (fun h2 => hk ((h.map Prod.fst).mem_iff.1 h2))]
theorem ghas_perm {m l : GM} (h : m.Perm l) (k : List UInt8) : ghas m k = ghas l k := by
  rw [Bool.eq_iff_iff, ghas_mem, ghas_mem]
  exact (h.map Prod.fst).mem_iff

/-! ### what a gate answers -/
def mayC (m : GM) (k : List UInt8) : Nat := if nameB k = false then 5 else if glk m k = 0 ∧ 20 ≤ m.length then 8 else 0
def opC' (m : GM) (k : List UInt8) : Nat := if mayC m k ≠ 0 then mayC m k else if 2147483648 ≤ glk m k then 2 else 0
def opN (m : GM) (k : List UInt8) : Nat := if opC' m k = 0 then glk m k + 1 else 0
def adC (m : GM) (k : List UInt8) (n : Int) : Nat := if glk m k = 0 then 6 else if (glk m k : Int) = n then 0 else 11
def stC (m : GM) (k : List UInt8) (n : Int) : Nat := if mayC m k ≠ 0 then mayC m k else if n < 1 ∨ 2147483648 < n then 2 else 0
def stN (m : GM) (k : List UInt8) (n : Int) : Nat := if (glk m k : Int) < n then n.toNat else glk m k

def opM (m : GM) (k : List UInt8) : GM := if opC' m k = 0 then gput m k (glk m k + 1) else m
def stM (m : GM) (k : List UInt8) (n : Int) : GM := if stC m k n = 0 then gput m k (stN m k n) else m
theorem mayC_name {m : GM} {k : List UInt8} (h : nameB k = false) : mayC m k = 5 := by unfold mayC; rw [if_pos h]
theorem mayC_full {m : GM} {k : List UInt8} (h : nameB k = true) (h2 : glk m k = 0 ∧ 20 ≤ m.length) : mayC m k = 8 := by unfold mayC; rw [if_neg (by simp [h]), if_pos h2]
theorem mayC_ok {m : GM} {k : List UInt8} (h : nameB k = true) (h2 : ¬ (glk m k = 0 ∧ 20 ≤ m.length)) : mayC m k = 0 := by unfold mayC; rw [if_neg (by simp [h]), if_neg h2]
theorem op_may {m : GM} {k : List UInt8} (h : mayC m k ≠ 0) : opC' m k = mayC m k ∧ opN m k = 0 ∧ opM m k = m := by
  have e : opC' m k = mayC m k := by unfold opC'; rw [if_pos h]
  exact ⟨e, by unfold opN; rw [if_neg (by rw [e]; exact h)], by unfold opM; rw [if_neg (by rw [e]; exact h)]⟩
theorem op_top {m : GM} {k : List UInt8} (h : mayC m k = 0) (h2 : 2147483648 ≤ glk m k) : opC' m k = 2 ∧ opN m k = 0 ∧ opM m k = m := by
  have e : opC' m k = 2 := by unfold opC'; rw [if_neg (by simp [h]), if_pos h2]
  exact ⟨e, by unfold opN; rw [if_neg (by rw [e]; decide)], by unfold opM; rw [if_neg (by rw [e]; decide)]⟩
theorem op_ok {m : GM} {k : List UInt8} (h : mayC m k = 0) (h2 : ¬ 2147483648 ≤ glk m k) : opC' m k = 0 ∧ opN m k = glk m k + 1 ∧ opM m k = gput m k (glk m k + 1) := by
  have e : opC' m k = 0 := by unfold opC'; rw [if_neg (by simp [h]), if_neg h2]
  exact ⟨e, by unfold opN; rw [if_pos e], by unfold opM; rw [if_pos e]⟩
theorem st_may {m : GM} {k : List UInt8} {n : Int} (h : mayC m k ≠ 0) : stC m k n = mayC m k ∧ stM m k n = m := by
  have e : stC m k n = mayC m k := by unfold stC; rw [if_pos h]
  exact ⟨e, by unfold stM; rw [if_neg (by rw [e]; exact h)]⟩
theorem st_bd {m : GM} {k : List UInt8} {n : Int} (h : mayC m k = 0) (h2 : n < 1 ∨ 2147483648 < n) : stC m k n = 2 ∧ stM m k n = m := by
  have e : stC m k n = 2 := by unfold stC; rw [if_neg (by simp [h]), if_pos h2]
  exact ⟨e, by unfold stM; rw [if_neg (by rw [e]; decide)]⟩
theorem st_ok {m : GM} {k : List UInt8} {n : Int} (h : mayC m k = 0) (h2 : ¬ (n < 1 ∨ 2147483648 < n)) : stC m k n = 0 ∧ stM m k n = gput m k (stN m k n) := by
  have e : stC m k n = 0 := by unfold stC; rw [if_neg (by simp [h]), if_neg h2]
  exact ⟨e, by unfold stM; rw [if_pos e]⟩
theorem mayC_perm {m l : GM} (h : m.Perm l) (hl : (l.map Prod.fst).Nodup) (k : List UInt8) : mayC m k = mayC l k := by
  unfold mayC
  rw [glk_perm h hl, h.length_eq]
theorem opC_perm {m l : GM} (h : m.Perm l) (hl : (l.map Prod.fst).Nodup) (k : List UInt8) : opC' m k = opC' l k ∧ opN m k = opN l k := by
  have e : opC' m k = opC' l k := by unfold opC'; rw [mayC_perm h hl, glk_perm h hl]
  exact ⟨e, by unfold opN; rw [e, glk_perm h hl]⟩
theorem stC_perm {m l : GM} (h : m.Perm l) (hl : (l.map Prod.fst).Nodup) (k : List UInt8) (n : Int) : stC m k n = stC l k n ∧ stN m k n = stN l k n ∧ adC m k n = adC l k n := by
  refine ⟨?_, ?_, ?_⟩
  · unfold stC; rw [mayC_perm h hl]
  · unfold stN; rw [glk_perm h hl]
  · unfold adC; rw [glk_perm h hl]

/-! ### texts -/
def lineG (p : List UInt8 × Nat) : List UInt8 := p.1 ++ 32 :: (Lib.decDigits p.2 ++ [10])
def gtext (l : GM) : List UInt8 := l.flatMap lineG
/-- a gate that can be -/
structure GWF (l : GM) : Prop where
  srt : GSrt l
  nm : ∀ p ∈ l, nameB p.1 = true
  ep : ∀ p ∈ l, 1 ≤ p.2 ∧ p.2 ≤ 2147483648
  few : l.length ≤ 20
theorem GWF.nil : GWF [] := ⟨List.Pairwise.nil, by simp, by simp, by simp⟩
theorem nch_gt {c : UInt8} (h : nchB c = true) : 32 < c := by
  unfold nchB at h
  simp only [Bool.or_eq_true, Bool.and_eq_true, decide_eq_true_eq, beq_iff_eq] at h
  rcases h with ((⟨h, _⟩ | ⟨h, _⟩) | h) | h
  · exact Nat.lt_of_lt_of_le (by decide : (32 : UInt8).toNat < (97 : UInt8).toNat) h
  · exact Nat.lt_of_lt_of_le (by decide : (32 : UInt8).toNat < (48 : UInt8).toNat) h
  · rw [h]; decide
  · rw [h]; decide
/-- lines are as their names are -/
theorem line_lt : ∀ (a b x y : List UInt8), a.all nchB = true → b.all nchB = true → ltL a b = true → ltL (a ++ 32 :: x) (b ++ 32 :: y) = true := by
  intro a
  induction a with
  | nil =>
    intro b x y _ hb h
    cases b with
    | nil => rw [ltL_nil_right] at h; cases h
    | cons c b =>
      rw [List.all_cons, Bool.and_eq_true] at hb
      rw [List.nil_append, List.cons_append, ltL_cons]
      have := nch_gt hb.1
      simp [this]
  | cons c a ih =>
    intro b x y ha hb h
    cases b with
    | nil => rw [ltL_nil_right] at h; cases h
    | cons d b =>
      rw [List.all_cons, Bool.and_eq_true] at ha hb
      rw [ltL_cons] at h
      rw [List.cons_append, List.cons_append, ltL_cons]
      rw [Bool.or_eq_true] at h ⊢
      rcases h with h | h
      · exact .inl h
      · rw [Bool.and_eq_true] at h ⊢
        exact .inr ⟨h.1, ih b x y ha.2 hb.2 h.2⟩
theorem lines_srt {l : GM} (h : GWF l) : (l.map lineG).Pairwise fun a b => ltL a b = true := by
  rw [List.pairwise_map]
  refine List.Pairwise.imp_of_mem (fun {a b} ha hb hab => ?_) h.srt
  exact line_lt a.1 b.1 _ _ ((nameB_iff _).1 (h.nm a ha)).2.2 ((nameB_iff _).1 (h.nm b hb)).2.2 hab
theorem ltL_lt {a b : List UInt8} (h : ltL a b = true) : a < b := by
  unfold ltL at h
  rw [bytesLess_eq] at h
  exact of_decide_eq_true h
/-- the sorted lines of a gate in any order -/
theorem sorted_lines {m l : GM} (hp : m.Perm l) (h : GWF l) : (m.map lineG).mergeSort leB = l.map lineG := by
  rw [mergeSort_of_perm (hp.map lineG)]
  refine List.mergeSort_of_pairwise (List.Pairwise.imp (fun {a b} hab => ?_) (lines_srt h))
  have := ltL_lt hab
  simp only [decide_eq_true_eq]
  exact List.le_of_lt this
theorem join_nil (l : List (List UInt8)) : l.flatten = (l.map id).flatten := by simp
theorem gtext_is (l : GM) : gtext l = (l.map lineG).flatten := by unfold gtext; rw [List.flatMap_def]
end Go.Proofs.YtdpoalbbcmkceaaGreatDoor
/- A set of names kept in a map of bools. -/
namespace Go.Proofs.YtdpoalbbcmkceaaGreatDoor
open Go.RowKit
set_option linter.unusedVariables false

set_option maxRecDepth 100000 in
theorem plainBool_inv {v : Value} {x : Bool} {ps : List MemPlace} (h : plainElem (H := Unit) Tryz.prog 4 v = some (.lit (.bool x), ps)) : v = .bool x := by
  unfold plainElem at h
  rw [Tryz.underlying4] at h
  cases v <;> simp at h
  rw [h.1]
/-- the names whose value is true -/
def FMapIs (w : World) (b n : Nat) (fu : List (List UInt8)) : Prop :=
  ∃ D : DataW Unit, w.ownsMap Tryz.prog 9 (plainElem Tryz.prog 4) b n D ∧
    (∀ k : List UInt8, D.atKey (.string k) (.lit (.bool false)) = .lit (.bool (fu.contains k)))
theorem FMapIs.made (w : World) : FMapIs (w.alloc (.map #[] 0)) w.heap.size 0 [] :=
  ⟨.map [], World.ownsMap_made w _ _ _, fun k => rfl⟩
theorem FMapIs.lt {w : World} {b n : Nat} {fu : List (List UInt8)} (h : FMapIs w b n fu) : b < w.heap.size := by obtain ⟨D, h, _⟩ := h; exact h.lt
theorem FMapIs.isMap {w : World} {b n : Nat} {fu : List (List UInt8)} (h : FMapIs w b n fu) : ∃ es clock, w.heap[b]? = some (.map es clock) := by
  obtain ⟨D, ⟨es, clock, hb, _⟩, _⟩ := h
  exact ⟨es, clock, hb⟩
theorem FMapIs.kept {w w' : World} {b n : Nat} {fu : List (List UInt8)} (h : FMapIs w b n fu) (hb : w'.heap[b]? = w.heap[b]?) : FMapIs w' b n fu := by
  obtain ⟨D, ⟨es, clock, h1, h2⟩, h3⟩ := h
  exact ⟨D, ⟨es, clock, hb.trans h1, h2⟩, h3⟩
theorem FMapIs.mono {w : World} {b n : Nat} {fu : List (List UInt8)} (h : FMapIs w b n fu) {n' : Nat} (hn : n ≤ n') : FMapIs w b n' fu := by
  obtain ⟨D, h1, h2⟩ := h
  exact ⟨D, h1.mono hn, h2⟩
set_option maxRecDepth 100000 in
theorem FMapIs.look {w : World} {b n : Nat} {fu : List (List UInt8)} (h : FMapIs w b n fu) {k : List UInt8} (hk : k.length ≤ maxLen) :
    (Instr.lookup 57 (.map (some b)) (.string (bs k)) false).run Tryz.prog w = .ok (.bool (fu.contains k)) w := by
  obtain ⟨D, h1, h2⟩ := h
  obtain ⟨v, ps, hr, hv⟩ := h1.lookup gkeyed Tryz.underlying57 (z := .bool false) (by kernel_rfl) (zd := .lit (.bool false)) (zp := []) (plainElem_bool Tryz.underlying4 false) (gkey_of hk)
  rw [h2 k] at hv
  rw [plainBool_inv hv] at hr
  exact hr
set_option maxRecDepth 100000 in
theorem FMapIs.store {w : World} {b n : Nat} {fu : List (List UInt8)} (h : FMapIs w b n fu) {k : List UInt8} (hk : k.length ≤ maxLen) (hn : n < maxLen) :
    ∃ w', (Instr.mapUpdate 57 (.map (some b)) (.string (bs k)) (.bool true)).run Tryz.prog w = .ok () w' ∧ FMapIs w' b (n + 1) (k :: fu) ∧ w.mapTurned w' b := by
  obtain ⟨D, h1, h2⟩ := h
  obtain ⟨w', hr, ho, ht⟩ := h1.store gkeyed Tryz.underlying57 hn (gkey_of hk) (plainElem_bool Tryz.underlying4 true)
  refine ⟨w', hr, ⟨_, ho, fun k' => ?_⟩, ht⟩
  by_cases e : k' = k
  · subst e
    rw [Maps.atKey_put_same h1.isMap (gkeyLit k')]
    simp
  · have ne : Lit.string k' ≠ .string k := fun h => e (by injection h)
    rw [Maps.atKey_put_other ne, h2 k']
    simp [e]
end Go.Proofs.YtdpoalbbcmkceaaGreatDoor
