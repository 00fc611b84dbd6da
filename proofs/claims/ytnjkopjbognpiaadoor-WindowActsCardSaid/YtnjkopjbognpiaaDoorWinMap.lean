/- A receiver's map: numbers, each with a text. -/
import Derived.Test.YtnjkopjbognpiaaDoorWinPlain
import Derived.Maps.OwnSet
import Derived.Maps.Views
namespace Go.Proofs.YtnjkopjbognpiaaDoor
open Go.RowKit
set_option linter.unusedVariables false

def MapIs (w : World) (b n : Nat) (m : List (Int × List UInt8)) : Prop :=
  ∃ D : DataW Unit, w.ownsMap Tryd.prog 3 (plainElem Tryd.prog 9) b n D ∧
    ∀ k, Maps.has D (.int .i64 k) = (lk m k).isSome ∧ D.atKey (.int .i64 k) (.lit (.string [])) = .lit (.string ((lk m k).getD []))
theorem MapIs.made (w : World) : MapIs (w.alloc (.map #[] 0)) w.heap.size 0 [] :=
  ⟨.map [], World.ownsMap_made w _ _ _, fun k => ⟨rfl, rfl⟩⟩
theorem MapIs.lt {w : World} {b n : Nat} {m : List (Int × List UInt8)} (h : MapIs w b n m) : b < w.heap.size := by obtain ⟨D, h, _⟩ := h; exact h.lt
theorem MapIs.kept {w w' : World} {b n : Nat} {m : List (Int × List UInt8)} (h : MapIs w b n m) (hb : w'.heap[b]? = w.heap[b]?) : MapIs w' b n m := by
  obtain ⟨D, ⟨es, clock, h1, h2⟩, h3⟩ := h
  exact ⟨D, ⟨es, clock, hb.trans h1, h2⟩, h3⟩
theorem keyed : Maps.Keyed Tryd.prog 3 := Maps.int_keyed Tryd.underlying3
theorem key_of {k : Int} (h : (Lit.int .i64 k).wf = true) : keyOf Tryd.prog 3 (.int .i64 k) = some (.int .i64 k) := Maps.keyOf_int_mk Tryd.underlying3 h
theorem wf_well {k : Int} (h : 0 ≤ k ∧ k < 65536) : (Lit.int .i64 k).wf = true := by
  simp [Lit.wf, IntKind.min, IntKind.max, IntKind.signed, IntKind.bits]; omega
set_option maxRecDepth 100000 in
theorem plain_str {v : Value} {l : List UInt8} {ps : List MemPlace} (h : plainElem (H := Unit) Tryd.prog 9 v = some (.lit (.string l), ps)) : v = .string (bs l) := by
  unfold plainElem at h
  rw [Tryd.underlying9] at h
  cases v <;> simp at h
  obtain ⟨_, h1, _⟩ := h
  rw [← h1, bs_of]
set_option maxRecDepth 100000 in
theorem MapIs.look {w : World} {b n : Nat} {m : List (Int × List UInt8)} (h : MapIs w b n m) {k : Int} (hk : (Lit.int .i64 k).wf = true) :
    (Instr.lookup 62 (.map (some b)) (.int .i64 k) true).run Tryd.prog w = .ok (.tuple #[.string (bs ((lk m k).getD [])), .bool (lk m k).isSome]) w := by
  obtain ⟨D, h1, h2⟩ := h
  obtain ⟨v, ps, hr, hv⟩ := h1.look_ok keyed Tryd.underlying62 (z := .string ⟨#[]⟩) (zd := .lit (.string [])) (zp := []) (by kernel_rfl) (by rw [plainElem_string Tryd.underlying9 (by decide)]) (key_of hk)
  rw [(h2 k).2] at hv
  rw [plain_str hv, (h2 k).1] at hr
  exact hr
theorem keyLit (k : Int) : WideAt.IsKeyLit (.int .i64 k) := by trivial
set_option maxRecDepth 100000 in
theorem MapIs.store {w : World} {b n : Nat} {m : List (Int × List UInt8)} (h : MapIs w b n m) {k : Int} (hk : (Lit.int .i64 k).wf = true) {d : List UInt8} (hd : d.length ≤ maxLen) (hn : n < maxLen) :
    ∃ w', (Instr.mapUpdate 62 (.map (some b)) (.int .i64 k) (.string (bs d))).run Tryd.prog w = .ok () w' ∧ MapIs w' b (n + 1) (mput m k d) ∧ w.mapTurned w' b := by
  obtain ⟨D, h1, h2⟩ := h
  obtain ⟨w', hr, ho, ht⟩ := h1.store keyed Tryd.underlying62 hn (key_of hk) (plainElem_string Tryd.underlying9 (s := bs d) (by rw [bs_size]; exact hd))
  refine ⟨w', hr, ⟨_, ho, fun k' => ?_⟩, ht⟩
  by_cases e : k' = k
  · subst e
    rw [Maps.has_put_same h1.isMap (keyLit k'), Maps.atKey_put_same h1.isMap (keyLit k'), lk_put_same, bs_list]
    exact ⟨rfl, rfl⟩
  · have ne : Lit.int .i64 k' ≠ .int .i64 k := fun h => e (by injection h)
    rw [Maps.has_put_other ne, Maps.atKey_put_other ne, lk_put_other m d e]
    exact h2 k'
set_option maxRecDepth 100000 in
theorem MapIs.drop {w : World} {b n : Nat} {m : List (Int × List UInt8)} (h : MapIs w b n m) {k : Int} (hk : (Lit.int .i64 k).wf = true) (ty : TypeId) :
    ∃ w', (Builtin.delete_ #[62, 3] ty #[.map (some b), .int .i64 k]).run Tryd.prog w = .ok (.tuple #[]) w' ∧ MapIs w' b n (mdel m k) ∧ w.mapTurned w' b := by
  obtain ⟨D, h1, h2⟩ := h
  obtain ⟨w', hr, ho, ht⟩ := h1.drop keyed Tryd.underlying62 (key_of hk) ty
  refine ⟨w', hr, ⟨_, ho, fun k' => ?_⟩, ht⟩
  by_cases e : k' = k
  · subst e
    rw [Maps.has_del_same, Maps.atKey_del_same, lk_del_same]
    exact ⟨rfl, rfl⟩
  · have ne : Lit.int .i64 k' ≠ .int .i64 k := fun h => e (by injection h)
    rw [Maps.has_del_other ne, Maps.atKey_del_other ne, lk_del_other m e]
    exact h2 k'
end Go.Proofs.YtnjkopjbognpiaaDoor
