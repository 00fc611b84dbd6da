/- Bytes of the call's own in whatever row: made by append, or by a conversion, or cut; 'append' of a string onto them. -/
import Derived.Test.YtomaojpldinmgaaDoorChg
import Derived.Lib.AppendStr
import Derived.Lib.ConvBytes
import Derived.Lib.AtoiErrMem
namespace Go.Proofs.YtomaojpldinmgaaDoor
open Go.RowKit
set_option linter.unusedVariables false

/-- a row's mark lies behind its cells -/
def Free (n : Nat) (fr : Nat × Nat) : Prop := ∀ j, j < n → ¬ (fr.1 ≤ j ∧ j < fr.2)
theorem Free.zero (n : Nat) : Free n (0, 0) := fun j _ h => by omega
def BufIs (w : World) (base : Nat) (e : TypeId) (v : Value) (xs : List Value) : Prop :=
  (v = .slice none 0 0 ∧ xs = []) ∨ ∃ g cap cur fr, v = .slice (some ⟨g, 0, none⟩) xs.length cap ∧ base ≤ g ∧ w.heap[g]? = some (.cells cur e fr) ∧ Free cur.size fr ∧ xs.length ≤ cap ∧ cap ≤ cur.size ∧ cap ≤ maxLen ∧ cur.toList.take xs.length = xs
theorem frozen_free {w : World} {g : Nat} {cur : Array Value} {e : TypeId} {fr : Nat × Nat} (hg : w.heap[g]? = some (.cells cur e fr)) (hf : Free cur.size fr) (j : Nat) (hj : j < cur.size) : w.frozen? ⟨g, j, none⟩ = false := by
  obtain ⟨lo, hi⟩ := fr
  have := hf j hj
  simp only [World.frozen?, hg]
  simp only [Bool.and_eq_false_iff, decide_eq_false_iff_not]
  simp only at this
  omega
theorem run_storeCells_free (P : Program) (g o : Nat) (t : TypeId) (fr : Nat × Nat) : ∀ (vs : List Value) (i : Nat) (cur : Array Value) (w : World), w.heap[g]? = some (.cells cur t fr) → Free cur.size fr → o + i + vs.length ≤ cur.size → (∀ v ∈ vs, v.oneCell' = true) →
    (storeCells ⟨g, o, none⟩ vs i).run P w = .ok () (w.setRow g (cur.toList.take (o + i) ++ vs ++ cur.toList.drop (o + i + vs.length)).toArray)
  | [], i, cur, w, hg, _, _, _ => by
    simp only [storeCells, List.append_nil, List.length_nil, Nat.add_zero, List.take_append_drop, Array.toArray_toList]
    rw [setRow_self w g cur t fr hg]
    rfl
  | v :: rest, i, cur, w, hg, hf, hl, h1 => by
    have hi : o + i < cur.size := by simp at hl; omega
    have hadd : (⟨g, o, none⟩ : Addr).add i = ⟨g, o + i, none⟩ := by unfold Addr.add; split <;> simp_all
    have hcell : w.cell? ⟨g, o + i, none⟩ = some cur[o + i] := by simp [World.cell?, hg, hi]
    have hfro : w.frozen? ⟨g, o + i, none⟩ = false := frozen_free hg hf _ hi
    have hst : (store ((⟨g, o, none⟩ : Addr).add i) v).run P w = .ok () (w.setRow g (cur.setIfInBounds (o + i) v)) := by
      rw [hadd, run_store P w _ v _ (h1 v (by simp)), hcell]
      simp [hfro, setCell_eq_setRow w g (o + i) cur t fr v hg]
    have ih := run_storeCells_free P g o t fr rest (i + 1) (cur.setIfInBounds (o + i) v) (w.setRow g (cur.setIfInBounds (o + i) v)) (setRow_heap w g cur _ t _ hg) (by simpa using hf) (by simp at hl ⊢; omega) (fun x hx => h1 x (by simp [hx]))
    simp only [storeCells, Sem.run_bind, hst, Result.andThen_ok, ih, setRow_setRow]
    congr 3
    have e := list_seg_step cur.toList (o + i) v rest (by simp at hl ⊢; omega)
    simpa [Array.toList_setIfInBounds, Nat.add_assoc] using e
theorem run_append_room_free {P : Program} (w : World) (t u ty e : TypeId) (i : TypeInfo) (ht : P.underlying t = some (.slice e)) (hu : P.underlying u = some .string) (hi : P.info? e = some i) (hs1 : i.size = 1)
    (g sLen sCap : Nat) (cur : Array Value) (fr : Nat × Nat) (hg : w.heap[g]? = some (.cells cur e fr)) (hf : Free cur.size fr) (s : ByteArray) (hroom : sLen + s.size ≤ sCap) (hfit : sLen + s.size ≤ cur.size) :
    (Builtin.append_ #[t, u] ty #[.slice (some ⟨g, 0, none⟩) sLen sCap, .string s]).run P w =
      .ok (.slice (some ⟨g, 0, none⟩) (sLen + s.size) sCap) (w.setRow g (cur.toList.take sLen ++ Lib.strCells s ++ cur.toList.drop (sLen + s.size)).toArray) := by
  have hf1 := Lib.run_firstCells_string (P := P) w 1 s
  have hst := run_storeCells_free P g sLen e fr (Lib.strCells s) 0 cur w hg hf (by simpa [Lib.strCells_length] using hfit) (Lib.strCells_oneCell s)
  simp only [Nat.add_zero, Lib.strCells_length] at hst
  simp [Builtin.append_, run_underlying ht, run_underlying hu, sizeOf, typeInfo, hi, hs1, Builtin.lenOf, hroom, hf1, Addr.add_lit, hst]
theorem BufIs.cells {w : World} {base : Nat} {e : TypeId} {v : Value} {xs : List Value} (h : BufIs w base e v xs) {a : Addr} {n c : Nat} (hv : v = .slice (some a) n c) : n = xs.length ∧ a.off = 0 ∧ a.spot = none ∧ ∀ j u, xs[j]? = some u → w.cell? (a.add j) = some u := by
  rcases h with ⟨rfl, rfl⟩ | ⟨g, cap, cur, fr, rfl, hb, hg, hf, h1, h2, h3, h4⟩
  · cases hv
  · cases hv
    refine ⟨rfl, rfl, rfl, fun j u hj => ?_⟩
    have hadd : (⟨g, 0, none⟩ : Addr).add j = ⟨g, j, none⟩ := by unfold Addr.add; split <;> simp_all
    rw [hadd, cell_of_row w g j cur e fr hg]
    have hjl : j < xs.length := (List.getElem?_eq_some_iff.1 hj).1
    rw [← h4, List.getElem?_take, if_pos hjl] at hj
    simpa using hj
theorem BufIs.slice {w : World} {base : Nat} {e : TypeId} {v : Value} {xs : List Value} (h : BufIs w base e v xs) : SliceIs w v 1 xs := by
  rcases h with ⟨rfl, rfl⟩ | ⟨g, cap, cur, fr, rfl, hb, hg, hf, h1, h2, h3, h4⟩
  · exact .inl ⟨rfl, rfl⟩
  · exact .inr ⟨_, _, cap, rfl, h1, h3, by simp, (BufIs.cells (.inr ⟨g, cap, cur, fr, rfl, hb, hg, hf, h1, h2, h3, h4⟩ : BufIs w base e _ xs) rfl).2.2.2⟩
theorem BufIs.val {w : World} {base : Nat} {e : TypeId} {v : Value} {xs : List Value} (h : BufIs w base e v xs) : ∃ a c, v = .slice a xs.length c := by
  rcases h with ⟨rfl, rfl⟩ | ⟨g, cap, cur, fr, rfl, _⟩
  · exact ⟨_, _, rfl⟩
  · exact ⟨_, _, rfl⟩
theorem BufIs.val3 {w : World} {base : Nat} {e : TypeId} {v : Value} {xs : List Value} (h : BufIs w base e v xs) : ∃ a n c, v = .slice a n c := by
  obtain ⟨a, c, e⟩ := h.val
  exact ⟨a, _, c, e⟩
theorem BufIs.at {w : World} {base : Nat} {e : TypeId} {v : Value} {xs : List Value} (h : BufIs w base e v xs) {b : Nat} (hb : v.ownBlock = some b) : base ≤ b ∧ b < w.heap.size := by
  rcases h with ⟨rfl, rfl⟩ | ⟨g, cap, cur, fr, rfl, h0, hg, _⟩
  · cases hb
  · cases hb; exact ⟨h0, lt_of_block hg⟩
/-- a world that leaves its block alone -/
theorem BufIs.kept {w w' : World} {base : Nat} {e : TypeId} {v : Value} {xs : List Value} (h : BufIs w base e v xs) (hk : ∀ b, v.ownBlock = some b → w'.heap[b]? = w.heap[b]?) : BufIs w' base e v xs := by
  rcases h with h | ⟨g, cap, cur, fr, rfl, hb, hg, hr⟩
  · exact .inl h
  · exact .inr ⟨g, cap, cur, fr, rfl, hb, (hk g rfl).trans hg, hr⟩
theorem BufIs.below {w w' : World} {base : Nat} {e : TypeId} {v : Value} {xs : List Value} (h : BufIs w base e v xs) (hb : Below w.heap.size w w') : BufIs w' base e v xs :=
  h.kept fun b hb' => hb.block b (h.at hb').2
theorem BufIs.drew {w : World} {base : Nat} {e : TypeId} {v : Value} {xs : List Value} (h : BufIs w base e v xs) : BufIs w.drew base e v xs := h.kept fun _ _ => rfl
theorem BufIs.nil (w : World) (base : Nat) (e : TypeId) : BufIs w base e (.slice none 0 0) [] := .inl ⟨rfl, rfl⟩
theorem BufIs.conv (w : World) (base : Nat) (e : TypeId) (s : ByteArray) (hb : base ≤ w.heap.size) (hs : s.size ≤ maxLen) : BufIs (Lib.bytesWorld w e s) base e (.slice (some ⟨w.heap.size, 0, none⟩) s.size (grownCap w s.size 0 e)) (Lib.strCells s) := by
  have hl := Lib.strCells_length s
  have hc : (Lib.bytesCells w e s).size = grownCap w s.size 0 e := by
    have := grownCap_ge w s.size 0 e
    have h2 : s.data.size = s.size := rfl
    simp only [Lib.bytesCells, Array.size_append, Array.size_map, Array.size_replicate, h2]
    omega
  refine .inr ⟨w.heap.size, grownCap w s.size 0 e, _, _, by rw [hl], hb, Lib.bytesWorld_at_new w e s, fun j hj h => by simp only at h; omega, by rw [hl]; exact grownCap_ge _ _ _ _, Nat.le_of_eq hc.symm, grownCap_le_maxLen w _ _ _ hs, ?_⟩
  have e1 : (Lib.bytesCells w e s).toList = Lib.strCells s ++ List.replicate (grownCap w s.size 0 e - s.size) (.int .u8 0) := by simp [Lib.bytesCells, Lib.strCells]
  rw [e1]; exact List.take_left
/-- cut at n, the room too -/
theorem BufIs.cut {w : World} {base : Nat} {e : TypeId} {a : Addr} {n c : Nat} {xs : List Value} (h : BufIs w base e (.slice (some a) n c) xs) (k : Nat) (hk : k ≤ xs.length) : BufIs w base e (.slice (some a) k k) (xs.take k) := by
  rcases h with ⟨h, _⟩ | ⟨g, cap, cur, fr, hv, hb, hg, hf, h1, h2, h3, h4⟩
  · cases h
  · cases hv
    refine .inr ⟨g, k, cur, fr, by rw [List.length_take, Nat.min_eq_left hk], hb, hg, hf, by rw [List.length_take]; omega, by omega, by omega, ?_⟩
    rw [List.length_take, Nat.min_eq_left hk]
    conv => rhs; rw [← h4]
    rw [List.take_take, Nat.min_eq_left hk]
theorem run_append_buf {P : Program} (w : World) (base : Nat) (t u ty e : TypeId) (i : TypeInfo) (ht : P.underlying t = some (.slice e)) (hu : P.underlying u = some .string) (hi : P.info? e = some i) (hz : i.zero = some (.int .u8 0))
    (hsize : i.size = 1) (hby : i.bytes = 1) (v : Value) (xs : List Value) (h : BufIs w base e v xs) (s : ByteArray) (h63 : xs.length + s.size ≤ 140737488355328) (hbase : base ≤ w.heap.size) :
    ∃ v' w', (Builtin.append_ #[t, u] ty #[v, .string s]).run P w = .ok v' w' ∧ BufIs w' base e v' (xs ++ Lib.strCells s) ∧ w.grownBy w' v.ownBlock ∧ (v'.ownBlock = v.ownBlock ∨ v'.ownBlock = some w.heap.size) := by
  have hml : (140737488355328 : Nat) ≤ maxLen := by unfold maxLen; omega
  have hlen : (xs ++ Lib.strCells s).length = xs.length + s.size := by rw [List.length_append, Lib.strCells_length]
  have grown : ∀ (old : Nat), old < xs.length + s.size → ∀ (row : Option Nat),
      BufIs (w.drew.alloc (.cells (xs.toArray ++ (Lib.strCells s).toArray ++ Builtin.zeroCells (Value.int .u8 0).cells (grownCap w (xs.length + s.size) old e - (xs.length + s.size))) e)) base e
        (.slice (some ⟨w.heap.size, 0, none⟩) (xs.length + s.size) (grownCap w (xs.length + s.size) old e)) (xs ++ Lib.strCells s) ∧
      w.grownBy (w.drew.alloc (.cells (xs.toArray ++ (Lib.strCells s).toArray ++ Builtin.zeroCells (Value.int .u8 0).cells (grownCap w (xs.length + s.size) old e - (xs.length + s.size))) e)) row := by
    intro old ho row
    have hge := grownCap_ge w (xs.length + s.size) old e
    have hcm : grownCap w (xs.length + s.size) old e ≤ maxLen := grownCap_le_maxLen w _ old e (by omega)
    refine ⟨.inr ⟨w.heap.size, _, _, (0, 0), by rw [hlen], hbase, heap_alloc_new w.drew _, Free.zero _, by rw [hlen]; exact hge, ?_, hcm, ?_⟩, ⟨rfl, rfl, rfl, by simp, fun k hk _ => Below.heap_alloc w.drew _ k hk⟩⟩
    · have hz1 : (Value.int IntKind.u8 0).cells.size = 1 := rfl
      simp only [Array.size_append, List.size_toArray, size_zeroCells, hz1, Lib.strCells_length]
      omega
    · simp only [Array.toList_append, List.append_assoc]
      rw [← List.append_assoc]
      exact List.take_left
  rcases h with ⟨rfl, rfl⟩ | ⟨g, cap, cur, fr, rfl, hbg, hg, hf, hnc, hcs, hcm, htake⟩
  · by_cases hm : s.size = 0
    · have hn : Lib.strCells s = [] := List.eq_nil_of_length_eq_zero (by rw [Lib.strCells_length]; exact hm)
      refine ⟨.slice none 0 0, w, ?_, by rw [hn]; exact BufIs.nil w base e, ⟨rfl, rfl, rfl, Nat.le_refl _, fun _ _ _ => rfl⟩, .inl rfl⟩
      have hf := Lib.run_firstCells_string (P := P) w 1 s
      rw [hm] at hf
      simp [Builtin.append_, run_underlying ht, run_underlying hu, sizeOf, typeInfo, hi, hsize, Builtin.lenOf, hm, hf]
    · have hr := run_append_nil_string (P := P) w t u ty e i (.int .u8 0) ht hu hi hz s (by omega) (by simp at h63; omega) (by rw [hby]; simp at h63; omega)
      have hgr := grown 0 (by simp; omega) (Value.ownBlock (.slice none 0 0))
      simp only [List.length_nil, Nat.zero_add, List.nil_append, Array.empty_append] at hgr ⊢
      have e1 : (s.data.map fun b => Value.int .u8 b.toNat) = (Lib.strCells s).toArray := by
        apply Array.ext'
        simp [Lib.strCells]
      rw [e1] at hr
      exact ⟨_, _, hr, by simpa using hgr.1, by simpa using hgr.2, .inr rfl⟩
  · have h' : BufIs w base e (.slice (some ⟨g, 0, none⟩) xs.length cap) xs := .inr ⟨g, cap, cur, fr, rfl, hbg, hg, hf, hnc, hcs, hcm, htake⟩
    by_cases hroom : xs.length + s.size ≤ cap
    · have hr := run_append_room_free (P := P) w t u ty e i ht hu hi hsize g xs.length cap cur fr hg hf s hroom (by omega)
      have hsz : (cur.toList.take xs.length ++ Lib.strCells s ++ cur.toList.drop (xs.length + s.size)).toArray.size = cur.size := by
        simp only [List.size_toArray, List.length_append, List.length_take, List.length_drop, Array.length_toList, Lib.strCells_length]
        omega
      refine ⟨_, _, hr, .inr ⟨g, cap, _, fr, by rw [hlen], hbg, setRow_heap w g cur _ e _ hg, by rw [hsz]; exact hf, by omega, by rw [hsz]; exact hcs, hcm, ?_⟩, ⟨rfl, rfl, rfl, by simp, fun k _ hk => setRow_other w g k _ (fun e => hk (by simp [Value.ownBlock, e]))⟩, .inl rfl⟩
      rw [htake]
      simp only [List.append_assoc]
      rw [← List.append_assoc]
      exact List.take_left
    · have holds := (h'.cells rfl).2.2.2
      have hr := Lib.run_append_grow_string (P := P) w t u ty e i (.int .u8 0) ht hu hi hz ⟨g, 0, none⟩ xs.length cap xs (by rw [hsize, Nat.mul_one]) holds s (by omega) (by omega) (by rw [hby]; exact growslice_fits (by omega) (by omega))
      have hgr := grown cap (by omega) (Value.ownBlock (.slice (some ⟨g, 0, none⟩) xs.length cap))
      exact ⟨_, _, hr, hgr.1, hgr.2, .inr rfl⟩
theorem wpList_append_buf {P : Program} {w : World} {ops : Array Oper} {rest : List Oper} {o : Oper} {a : Act} {Q : Exit → Act → World → Prop} (hgd : o.guard = none) (sl x : Operand) (t u : TypeId)
    (ho : o.op = .call { callee := .builtin .append, args := #[sl, x], argTypes := #[t, u] })
    (base : Nat) (e : TypeId) (i : TypeInfo) (ht : P.underlying t = some (.slice e)) (hu : P.underlying u = some .string) (hi : P.info? e = some i) (hz : i.zero = some (.int .u8 0)) (hsize : i.size = 1) (hby : i.bytes = 1)
    (v : Value) (xs : List Value) (hs : a.eval sl = v) (hown : BufIs w base e v xs) (s : ByteArray) (hx : a.eval x = .string s) (h63 : xs.length + s.size ≤ 140737488355328) (hbase : base ≤ w.heap.size)
    (h : ∀ v' w', BufIs w' base e v' (xs ++ Lib.strCells s) → w.grownBy w' v.ownBlock → (v'.ownBlock = v.ownBlock ∨ v'.ownBlock = some w.heap.size) → wpList P ops Q rest (a.put o.dst v') w') : wpList P ops Q (o :: rest) a w := by
  refine wpList_plain hgd fun K hK => ?_
  obtain ⟨v', w', hr, h2, h3, h4⟩ := run_append_buf (P := P) w base t u o.type e i ht hu hi hz hsize hby v xs hown s h63 hbase
  unfold Oper.wp execOp
  simp only [ho, resolve, invoke, builtin, Sem.run_bind, Sem.run_pure, Result.andThen_ok, List.map_toArray, List.map_cons, List.map_nil, hs, hx, hr]
  exact hK _ _ (h v' w' h2 h3 h4)
/-- as one step of a region that draws its order -/
theorem step_append_buf {P : Program} {ops : Array Oper} {o : Oper} {a : Act} {w : World} {K : Act → World → Prop} {Q : Exit → Act → World → Prop} {E : Prop}
    (hg : o.guard = none) (sl x : Operand) (t u : TypeId) (ho : o.op = .call { callee := .builtin .append, args := #[sl, x], argTypes := #[t, u] })
    (base : Nat) (e : TypeId) (i : TypeInfo) (ht : P.underlying t = some (.slice e)) (hu : P.underlying u = some .string) (hi : P.info? e = some i) (hz : i.zero = some (.int .u8 0)) (hsize : i.size = 1) (hby : i.bytes = 1)
    (v : Value) (xs : List Value) (hs : a.eval sl = v) (hown : BufIs w base e v xs) (s : ByteArray) (hx : a.eval x = .string s) (h63 : xs.length + s.size ≤ 140737488355328) (hbase : base ≤ w.heap.size)
    (h : ∀ v' w', BufIs w' base e v' (xs ++ Lib.strCells s) → w.grownBy w' v.ownBlock → (v'.ownBlock = v.ownBlock ∨ v'.ownBlock = some w.heap.size) → K (a.put o.dst v') w') :
    if Region.wanted o (yielded ops a.tmps) = true then Oper.wp P o a w K Q else E := by
  have hw : Region.wanted o (yielded ops a.tmps) = true := by simp [Region.wanted, hg]
  rw [if_pos hw]
  obtain ⟨v', w', hr, h2, h3, h4⟩ := run_append_buf (P := P) w base t u o.type e i ht hu hi hz hsize hby v xs hown s h63 hbase
  unfold Oper.wp execOp
  simp only [ho, resolve, invoke, builtin, Sem.run_bind, Sem.run_pure, Result.andThen_ok, List.map_toArray, List.map_cons, List.map_nil, hs, hx, hr]
  exact h v' w' h2 h3 h4
end Go.Proofs.YtomaojpldinmgaaDoor
