/- Texts of one proof, one behind the other: RowCopy. -/
import Derived.Test.YtdpoalbbcmkceaaGreatDoorB06
import Derived.Laws.CopyRow
import Derived.Lib.AppendZerosOnto
import Derived.Lib.Overlaps
import Derived.Laws.OwnMore
/- Rows of the call's own: copied into, extended within their capacity, cut and grown by zeros; an overlap of two blocks. Elements of any size. -/
namespace Go.Proofs.YtdpoalbbcmkceaaGreatDoor
open Go.RowKit
set_option linter.unusedVariables false

/-- spare room of a row, taken in -/
theorem own_extend {w : World} {base g cap n size : Nat} {e : TypeId} {xs : List Value} (h : w.ownsRow base e size (.slice (some ⟨g, 0, none⟩) n cap) n xs) {k : Nat} (hk : n ≤ k) (hc : k ≤ cap) :
    ∃ ys, ys.length = (k - n) * size ∧ w.ownsRow base e size (.slice (some ⟨g, 0, none⟩) k cap) k (xs ++ ys) := by
  obtain ⟨h1, h2⟩ := h
  rcases h2 with ⟨h2, _⟩ | ⟨g', cap', cur, hv, hg, hh, h3, h4, h5, h6⟩
  · cases h2
  · cases hv
    have hkm := Nat.mul_le_mul_right size hk
    have hcm := Nat.mul_le_mul_right size hc
    have hsub : (k - n) * size = k * size - n * size := Nat.sub_mul _ _ _
    refine ⟨(cur.toList.take (k * size)).drop (n * size), by rw [List.length_drop, List.length_take, Array.length_toList, h5]; omega, ?_, .inr ⟨g, cap, cur, rfl, hg, hh, hc, h4, h5, ?_⟩⟩
    · rw [List.length_append, h1, List.length_drop, List.length_take, Array.length_toList, h5]; omega
    · rw [← h6]
      have : cur.toList.take (n * size) = (cur.toList.take (k * size)).take (n * size) := by rw [List.take_take, Nat.min_eq_left hkm]
      rw [this, List.take_append_drop]
/-- 'copy' into a row of the call's own -/
theorem run_copy_own {P : Program} {w : World} {base g cap n size : Nat} {dT sT e : TypeId} {xs : List Value} (h : w.ownsRow base e size (.slice (some ⟨g, 0, none⟩) n cap) n xs) (ht : P.underlying dT = some (.slice e)) (hs : (P.info? e).map (·.size) = some size)
    {o m : Nat} {cs : List Value} (hcl : cs.length = m * size) (hom : o + m ≤ n) (h1 : ∀ u ∈ cs, u.oneCell' = true) :
    ∃ w', (∀ ty dLen dCap a sLen sCap, Nat.min sLen dLen = m → (∀ j v, cs[j]? = some v → w.cell? (a.add j) = some v) → (Builtin.copy_ #[dT, sT] ty #[.slice (some ⟨g, o * size, none⟩) dLen dCap, .slice (some a) sLen sCap]).run P w = .ok (goInt m) w') ∧
      w'.ownsRow base e size (.slice (some ⟨g, 0, none⟩) n cap) n (xs.take (o * size) ++ cs ++ xs.drop ((o + m) * size)) ∧ w.grownBy w' (some g) := by
  obtain ⟨h1', h2⟩ := h
  rcases h2 with ⟨h2, _⟩ | ⟨g', cap', cur, hv, hg, hh, h3, h4, h5, h6⟩
  · cases h2
  · cases hv
    have hnm := Nat.mul_le_mul_right size h3
    have hom' := Nat.mul_le_mul_right size hom
    rw [Nat.add_mul] at hom'
    have hst := run_storeCells_at P g (o * size) e cs 0 cur w hh (by rw [h5]; omega) h1
    simp only [Nat.add_zero] at hst
    generalize hR : (cur.toList.take (o * size) ++ cs ++ cur.toList.drop (o * size + cs.length)).toArray = R at hst
    refine ⟨w.setRow g R, ?_, ⟨?_, .inr ⟨g, cap, R, rfl, hg, setRow_heap w g cur _ e _ hh, h3, h4, ?_, ?_⟩⟩, ⟨rfl, rfl, rfl, by simp, fun x _ hx => setRow_other w g x _ (fun e => hx (by rw [e]))⟩⟩
    · intro ty dLen dCap a sLen sCap hmin hsrc
      cases hq : P.info? e with
      | none => simp [hq] at hs
      | some i =>
        have hi : i.size = size := by simpa [hq] using hs
        have hf := run_firstCells_some (P := P) w size m a sLen sCap cs hcl hsrc
        simp [Builtin.copy_, run_underlying ht, Builtin.lenOf, sizeOf, typeInfo, hq, hi, hmin, hf, hst]
    · rw [List.length_append, List.length_append, List.length_take, List.length_drop, h1', hcl, Nat.add_mul]; omega
    · rw [← hR]
      simp only [List.size_toArray, List.length_append, List.length_take, List.length_drop, Array.length_toList]
      omega
    · rw [← hR, ← h6, List.take_take, Nat.min_eq_left (by omega), List.drop_take, Nat.add_mul]
      have e1 : (cur.toList.take (o * size) ++ cs).length = o * size + m * size := by rw [List.length_append, List.length_take, Array.length_toList, hcl]; omega
      rw [hcl, List.take_append, e1, List.take_of_length_le (by omega)]
/-- 'append(s[:i], make(S, k)...)' where the row is too small -/
theorem run_append_zeros_own {P : Program} {w : World} {base g cap n size bytes : Nat} {t tn e : TypeId} {i0 : TypeInfo} {z : Value} {xs : List Value} (h : w.ownsRow base e size (.slice (some ⟨g, 0, none⟩) n cap) n xs) (ht : P.underlying t = some (.slice e)) (htn : P.underlying tn = some (.int .i64))
    (hi : P.info? e = some i0) (hz : i0.zero = some z) (hsize : i0.size = size) (hby : i0.bytes = bytes) (hzs : z.cells.size = size) (hsz : 0 < size) {i k : Nat} (hin : i ≤ n) (hk : 0 < k) (hg : cap < i + k) (h63 : i + k ≤ maxLen) (hbytes : (i + k) * bytes ≤ 140737488355328) (hbase : base ≤ w.heap.size) :
    ∃ w' G, (∀ ty, (Builtin.append_ #[t, tn] ty #[.slice (some ⟨g, 0, none⟩) i cap, .int .i64 k]).run P w = .ok (.slice (some ⟨w.heap.size, 0, none⟩) (i + k) G) w') ∧
      w'.ownsRow base e size (.slice (some ⟨w.heap.size, 0, none⟩) (i + k) G) (i + k) (xs.take (i * size) ++ (Builtin.zeroCells z.cells k).toList) ∧ Below w.heap.size w w' := by
  subst hsize
  subst hby
  have hle : (i + k) * i0.bytes ≤ 140737488355328 := hbytes
  have hkb : k * i0.bytes ≤ 281474976710656 := Nat.le_trans (Nat.mul_le_mul_right _ (Nat.le_add_left k i)) (by omega)
  have hlen := h.1
  have him := Nat.mul_le_mul_right i0.size hin
  have hold : (Builtin.firstCells i0.size i (.slice (some ⟨g, 0, none⟩) i cap)).run P w.drew = .ok (xs.take (i * i0.size)).toArray w.drew :=
    run_firstCells_some w.drew i0.size i ⟨g, 0, none⟩ i cap (xs.take (i * i0.size)) (by rw [List.length_take]; omega) (fun j v hj => by
      rw [List.getElem?_take] at hj
      split at hj
      · exact h.cells (g := g) rfl j v hj
      · cases hj)
  have hzl : (Builtin.zeroCells z.cells k).toList.length = k * i0.size := by rw [Array.length_toList, size_zeroCells, hzs]
  have hh63 : i + k ≤ 9223372036854775807 := by unfold maxLen at h63; omega
  refine ⟨_, _, fun ty => Lib.run_append_grow_zeros w t tn ty e i0 z .i64 .i64 ht htn hi hz (some ⟨g, 0, none⟩) i cap _ hold k hk hsz hg (by omega) hkb (growslice_fits (by omega) hle), ⟨?_, .inr ⟨w.heap.size, _, _, rfl, hbase, heap_alloc_new w.drew _, grownCap_ge w _ _ _, grownCap_le_maxLen w _ _ _ h63, ?_, ?_⟩⟩, ?_⟩
  · rw [List.length_append, List.length_take, hzl, hlen, Nat.add_mul]; omega
  · have := grownCap_ge w (i + k) cap e
    simp only [Array.size_append, List.size_toArray, size_zeroCells, hzs, List.length_take, hlen]
    have h7 : (grownCap w (i + k) cap e - (i + k)) * i0.size = grownCap w (i + k) cap e * i0.size - (i + k) * i0.size := Nat.sub_mul _ _ _
    have h8 := Nat.mul_le_mul_right i0.size this
    rw [Nat.add_mul] at h7 h8
    rw [h7]; omega
  · simp only [Array.toList_append]
    have e1 : ((xs.take (i * i0.size)).toArray.toList ++ (Builtin.zeroCells z.cells k).toList).length = (i + k) * i0.size := by
      rw [List.length_append, hzl, Nat.add_mul]; simp only [List.length_take, hlen]; omega
    rw [← e1, List.take_left]
  · exact (Below.refl w.heap.size w.drew).alloc (Nat.le_refl _) _ |> fun b => ⟨b.os, b.tape, b.output, b.size, b.block⟩
theorem wpList_copy_run {P : Program} {w : World} {ops : Array Oper} {rest : List Oper} {o : Oper} {a : Act} {Q : Exit → Act → World → Prop} (hgd : o.guard = none) (d s : Operand) (t t' : TypeId)
    (ho : o.op = .call { callee := .builtin .copy, args := #[d, s], argTypes := #[t, t'] }) (v u : Value) (hd : a.eval d = v) (hs : a.eval s = u) {v' : Value} {w' : World}
    (hr : (Builtin.copy_ #[t, t'] o.type #[v, u]).run P w = .ok v' w') (h : wpList P ops Q rest (a.put o.dst v') w') : wpList P ops Q (o :: rest) a w := by
  refine wpList_plain hgd fun K hK => ?_
  unfold Oper.wp execOp
  simp only [ho, resolve, invoke, builtin, Sem.run_bind, Sem.run_pure, Result.andThen_ok, List.map_toArray, List.map_cons, List.map_nil, hd, hs, hr]
  exact hK _ _ h
theorem wpList_append_run {P : Program} {w : World} {ops : Array Oper} {rest : List Oper} {o : Oper} {a : Act} {Q : Exit → Act → World → Prop} (hgd : o.guard = none) (d s : Operand) (t t' : TypeId)
    (ho : o.op = .call { callee := .builtin .append, args := #[d, s], argTypes := #[t, t'] }) (v u : Value) (hd : a.eval d = v) (hs : a.eval s = u) {v' : Value} {w' : World}
    (hr : (Builtin.append_ #[t, t'] o.type #[v, u]).run P w = .ok v' w') (h : wpList P ops Q rest (a.put o.dst v') w') : wpList P ops Q (o :: rest) a w := by
  refine wpList_plain hgd fun K hK => ?_
  unfold Oper.wp execOp
  simp only [ho, resolve, invoke, builtin, Sem.run_bind, Sem.run_pure, Result.andThen_ok, List.map_toArray, List.map_cons, List.map_nil, hd, hs, hr]
  exact hK _ _ h
theorem step_copy_run {P : Program} {ops : Array Oper} {o : Oper} {a : Act} {w : World} {K : Act → World → Prop} {Q : Exit → Act → World → Prop} {E : Prop}
    (hg : o.guard = none) (d x : Operand) (dT sT : TypeId) (hop : o.op = Op.call { callee := Callee.builtin Builtin.copy, args := #[d, x], argTypes := #[dT, sT] })
    (v u : Value) (hd : a.eval d = v) (hx : a.eval x = u) {v' : Value} {w' : World} (hr : (Builtin.copy_ #[dT, sT] o.type #[v, u]).run P w = .ok v' w') (hK : K (a.put o.dst v') w') :
    if Region.wanted o (yielded ops a.tmps) = true then Oper.wp P o a w K Q else E := by
  have hw : Region.wanted o (yielded ops a.tmps) = true := by simp [Region.wanted, hg]
  rw [if_pos hw]
  unfold Oper.wp execOp
  simp only [hop, resolve, invoke, builtin, Sem.run_bind, Sem.run_pure, Result.andThen_ok, List.map_toArray, List.map_cons, List.map_nil, hd, hx, hr]
  exact hK
end Go.Proofs.YtdpoalbbcmkceaaGreatDoor
