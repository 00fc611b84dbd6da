/- Texts of one proof, one behind the other: RowCopy, FramePlain, FrVal, Frame. -/
import Derived.Test.YtppkeophochgiaaGreatDoorB08
import Derived.Laws.CopyRow
import Derived.Lib.AppendZerosOnto
import Derived.Lib.Overlaps
import Derived.Laws.OwnMore
import Derived.Test.YtppkeophochgiaaGreatDoorB01
import Derived.Test.YtppkeophochgiaaGreatDoorB10
/- Rows of the call's own: copied into, extended within their capacity, cut and grown by zeros; an overlap of two blocks. Elements of any size. -/
namespace Go.Proofs.YtppkeophochgiaaGreatDoor
open Go.RowKit
set_option linter.unusedVariables false

/-- spare room of a row, taken in -/
theorem own_extend {w : World} {base g cap n size : Nat} {e : TypeId} {xs : List Value} (h : w.ownsRow base e size (.slice (some ⟨g, 0, none⟩) n cap) n xs) {k : Nat} (hk : n ≤ k) (hc : k ≤ cap) :
    ∃ ys, ys.length = (k - n) * size ∧ w.ownsRow base e size (.slice (some ⟨g, 0, none⟩) k cap) k (xs ++ ys) := by
  obtain ⟨h1, h2⟩ := h
  rcases h2 with ⟨h2, _⟩ | ⟨g', cap', cur, hv, hg, hh, h3, h4, h5, h6⟩
  · cases h2
  · cases hv
    have hkm := Nat.mul_le_mul_right size hk
    have hcm := Nat.mul_le_mul_right size hc
    have hsub : (k - n) * size = k * size - n * size := Nat.sub_mul _ _ _
    refine ⟨(cur.toList.take (k * size)).drop (n * size), by rw [List.length_drop, List.length_take, Array.length_toList, h5]; omega, ?_, .inr ⟨g, cap, cur, rfl, hg, hh, hc, h4, h5, ?_⟩⟩
    · rw [List.length_append, h1, List.length_drop, List.length_take, Array.length_toList, h5]; omega
    · rw [← h6]
      have : cur.toList.take (n * size) = (cur.toList.take (k * size)).take (n * size) := by rw [List.take_take, Nat.min_eq_left hkm]
      rw [this, List.take_append_drop]
/-- 'copy' into a row of the call's own -/
theorem run_copy_own {P : Program} {w : World} {base g cap n size : Nat} {dT sT e : TypeId} {xs : List Value} (h : w.ownsRow base e size (.slice (some ⟨g, 0, none⟩) n cap) n xs) (ht : P.underlying dT = some (.slice e)) (hs : (P.info? e).map (·.size) = some size)
    {o m : Nat} {cs : List Value} (hcl : cs.length = m * size) (hom : o + m ≤ n) (h1 : ∀ u ∈ cs, u.oneCell' = true) :
    ∃ w', (∀ ty dLen dCap a sLen sCap, Nat.min sLen dLen = m → (∀ j v, cs[j]? = some v → w.cell? (a.add j) = some v) → (Builtin.copy_ #[dT, sT] ty #[.slice (some ⟨g, o * size, none⟩) dLen dCap, .slice (some a) sLen sCap]).run P w = .ok (goInt m) w') ∧
      w'.ownsRow base e size (.slice (some ⟨g, 0, none⟩) n cap) n (xs.take (o * size) ++ cs ++ xs.drop ((o + m) * size)) ∧ w.grownBy w' (some g) := by
  obtain ⟨h1', h2⟩ := h
  rcases h2 with ⟨h2, _⟩ | ⟨g', cap', cur, hv, hg, hh, h3, h4, h5, h6⟩
  · cases h2
  · cases hv
    have hnm := Nat.mul_le_mul_right size h3
    have hom' := Nat.mul_le_mul_right size hom
    rw [Nat.add_mul] at hom'
    have hst := run_storeCells_at P g (o * size) e cs 0 cur w hh (by rw [h5]; omega) h1
    simp only [Nat.add_zero] at hst
    generalize hR : (cur.toList.take (o * size) ++ cs ++ cur.toList.drop (o * size + cs.length)).toArray = R at hst
    refine ⟨w.setRow g R, ?_, ⟨?_, .inr ⟨g, cap, R, rfl, hg, setRow_heap w g cur _ e _ hh, h3, h4, ?_, ?_⟩⟩, ⟨rfl, rfl, rfl, by simp, fun x _ hx => setRow_other w g x _ (fun e => hx (by rw [e]))⟩⟩
    · intro ty dLen dCap a sLen sCap hmin hsrc
      cases hq : P.info? e with
      | none => simp [hq] at hs
      | some i =>
        have hi : i.size = size := by simpa [hq] using hs
        have hf := run_firstCells_some (P := P) w size m a sLen sCap cs hcl hsrc
        simp [Builtin.copy_, run_underlying ht, Builtin.lenOf, sizeOf, typeInfo, hq, hi, hmin, hf, hst]
    · rw [List.length_append, List.length_append, List.length_take, List.length_drop, h1', hcl, Nat.add_mul]; omega
    · rw [← hR]
      simp only [List.size_toArray, List.length_append, List.length_take, List.length_drop, Array.length_toList]
      omega
    · rw [← hR, ← h6, List.take_take, Nat.min_eq_left (by omega), List.drop_take, Nat.add_mul]
      have e1 : (cur.toList.take (o * size) ++ cs).length = o * size + m * size := by rw [List.length_append, List.length_take, Array.length_toList, hcl]; omega
      rw [hcl, List.take_append, e1, List.take_of_length_le (by omega)]
/-- 'append(s[:i], make(S, k)...)' where the row is too small -/
theorem run_append_zeros_own {P : Program} {w : World} {base g cap n size bytes : Nat} {t tn e : TypeId} {i0 : TypeInfo} {z : Value} {xs : List Value} (h : w.ownsRow base e size (.slice (some ⟨g, 0, none⟩) n cap) n xs) (ht : P.underlying t = some (.slice e)) (htn : P.underlying tn = some (.int .i64))
    (hi : P.info? e = some i0) (hz : i0.zero = some z) (hsize : i0.size = size) (hby : i0.bytes = bytes) (hzs : z.cells.size = size) (hsz : 0 < size) {i k : Nat} (hin : i ≤ n) (hk : 0 < k) (hg : cap < i + k) (h63 : i + k ≤ maxLen) (hbytes : (i + k) * bytes ≤ 140737488355328) (hbase : base ≤ w.heap.size) :
    ∃ w' G, (∀ ty, (Builtin.append_ #[t, tn] ty #[.slice (some ⟨g, 0, none⟩) i cap, .int .i64 k]).run P w = .ok (.slice (some ⟨w.heap.size, 0, none⟩) (i + k) G) w') ∧
      w'.ownsRow base e size (.slice (some ⟨w.heap.size, 0, none⟩) (i + k) G) (i + k) (xs.take (i * size) ++ (Builtin.zeroCells z.cells k).toList) ∧ Below w.heap.size w w' := by
  subst hsize
  subst hby
  have hle : (i + k) * i0.bytes ≤ 140737488355328 := hbytes
  have hkb : k * i0.bytes ≤ 281474976710656 := Nat.le_trans (Nat.mul_le_mul_right _ (Nat.le_add_left k i)) (by omega)
  have hlen := h.1
  have him := Nat.mul_le_mul_right i0.size hin
  have hold : (Builtin.firstCells i0.size i (.slice (some ⟨g, 0, none⟩) i cap)).run P w.drew = .ok (xs.take (i * i0.size)).toArray w.drew :=
    run_firstCells_some w.drew i0.size i ⟨g, 0, none⟩ i cap (xs.take (i * i0.size)) (by rw [List.length_take]; omega) (fun j v hj => by
      rw [List.getElem?_take] at hj
      split at hj
      · exact h.cells (g := g) rfl j v hj
      · cases hj)
  have hzl : (Builtin.zeroCells z.cells k).toList.length = k * i0.size := by rw [Array.length_toList, size_zeroCells, hzs]
  have hh63 : i + k ≤ 9223372036854775807 := by unfold maxLen at h63; omega
  refine ⟨_, _, fun ty => Lib.run_append_grow_zeros w t tn ty e i0 z .i64 .i64 ht htn hi hz (some ⟨g, 0, none⟩) i cap _ hold k hk hsz hg (by omega) hkb (growslice_fits (by omega) hle), ⟨?_, .inr ⟨w.heap.size, _, _, rfl, hbase, heap_alloc_new w.drew _, grownCap_ge w _ _ _, grownCap_le_maxLen w _ _ _ h63, ?_, ?_⟩⟩, ?_⟩
  · rw [List.length_append, List.length_take, hzl, hlen, Nat.add_mul]; omega
  · have := grownCap_ge w (i + k) cap e
    simp only [Array.size_append, List.size_toArray, size_zeroCells, hzs, List.length_take, hlen]
    have h7 : (grownCap w (i + k) cap e - (i + k)) * i0.size = grownCap w (i + k) cap e * i0.size - (i + k) * i0.size := Nat.sub_mul _ _ _
    have h8 := Nat.mul_le_mul_right i0.size this
    rw [Nat.add_mul] at h7 h8
    rw [h7]; omega
  · simp only [Array.toList_append]
    have e1 : ((xs.take (i * i0.size)).toArray.toList ++ (Builtin.zeroCells z.cells k).toList).length = (i + k) * i0.size := by
      rw [List.length_append, hzl, Nat.add_mul]; simp only [List.length_take, hlen]; omega
    rw [← e1, List.take_left]
  · exact (Below.refl w.heap.size w.drew).alloc (Nat.le_refl _) _ |> fun b => ⟨b.os, b.tape, b.output, b.size, b.block⟩
theorem wpList_copy_run {P : Program} {w : World} {ops : Array Oper} {rest : List Oper} {o : Oper} {a : Act} {Q : Exit → Act → World → Prop} (hgd : o.guard = none) (d s : Operand) (t t' : TypeId)
    (ho : o.op = .call { callee := .builtin .copy, args := #[d, s], argTypes := #[t, t'] }) (v u : Value) (hd : a.eval d = v) (hs : a.eval s = u) {v' : Value} {w' : World}
    (hr : (Builtin.copy_ #[t, t'] o.type #[v, u]).run P w = .ok v' w') (h : wpList P ops Q rest (a.put o.dst v') w') : wpList P ops Q (o :: rest) a w := by
  refine wpList_plain hgd fun K hK => ?_
  unfold Oper.wp execOp
  simp only [ho, resolve, invoke, builtin, Sem.run_bind, Sem.run_pure, Result.andThen_ok, List.map_toArray, List.map_cons, List.map_nil, hd, hs, hr]
  exact hK _ _ h
theorem wpList_append_run {P : Program} {w : World} {ops : Array Oper} {rest : List Oper} {o : Oper} {a : Act} {Q : Exit → Act → World → Prop} (hgd : o.guard = none) (d s : Operand) (t t' : TypeId)
    (ho : o.op = .call { callee := .builtin .append, args := #[d, s], argTypes := #[t, t'] }) (v u : Value) (hd : a.eval d = v) (hs : a.eval s = u) {v' : Value} {w' : World}
    (hr : (Builtin.append_ #[t, t'] o.type #[v, u]).run P w = .ok v' w') (h : wpList P ops Q rest (a.put o.dst v') w') : wpList P ops Q (o :: rest) a w := by
  refine wpList_plain hgd fun K hK => ?_
  unfold Oper.wp execOp
  simp only [ho, resolve, invoke, builtin, Sem.run_bind, Sem.run_pure, Result.andThen_ok, List.map_toArray, List.map_cons, List.map_nil, hd, hs, hr]
  exact hK _ _ h
theorem step_copy_run {P : Program} {ops : Array Oper} {o : Oper} {a : Act} {w : World} {K : Act → World → Prop} {Q : Exit → Act → World → Prop} {E : Prop}
    (hg : o.guard = none) (d x : Operand) (dT sT : TypeId) (hop : o.op = Op.call { callee := Callee.builtin Builtin.copy, args := #[d, x], argTypes := #[dT, sT] })
    (v u : Value) (hd : a.eval d = v) (hx : a.eval x = u) {v' : Value} {w' : World} (hr : (Builtin.copy_ #[dT, sT] o.type #[v, u]).run P w = .ok v' w') (hK : K (a.put o.dst v') w') :
    if Region.wanted o (yielded ops a.tmps) = true then Oper.wp P o a w K Q else E := by
  have hw : Region.wanted o (yielded ops a.tmps) = true := by simp [Region.wanted, hg]
  rw [if_pos hw]
  unfold Oper.wp execOp
  simp only [hop, resolve, invoke, builtin, Sem.run_bind, Sem.run_pure, Result.andThen_ok, List.map_toArray, List.map_cons, List.map_nil, hd, hx, hr]
  exact hK
end Go.Proofs.YtppkeophochgiaaGreatDoor
/- Plain laws of frames. -/
namespace Go.Proofs.YtppkeophochgiaaGreatDoor
open Go.RowKit
set_option linter.unusedVariables false

structure PFr where
  k : UInt8
  e : Int
  q : Int
  d : List UInt8
deriving DecidableEq
def zfr : PFr := ⟨0, 0, 0, []⟩
def frC (f : PFr) : Nat := if ¬ (97 ≤ f.k.toNat ∧ f.k.toNat ≤ 122) then 4 else if (0 ≤ f.e ∧ f.e ≤ 2147483648) ∧ (0 ≤ f.q ∧ f.q < 65536) ∧ f.d.length ≤ 20000 then 0 else 2
theorem frC_kind {f : PFr} (h : ¬ (97 ≤ f.k.toNat ∧ f.k.toNat ≤ 122)) : frC f = 4 := by unfold frC; rw [if_pos h]
theorem frC_fine {f : PFr} (h : 97 ≤ f.k.toNat ∧ f.k.toNat ≤ 122) (h2 : (0 ≤ f.e ∧ f.e ≤ 2147483648) ∧ (0 ≤ f.q ∧ f.q < 65536) ∧ f.d.length ≤ 20000) : frC f = 0 := by unfold frC; rw [if_neg (by simpa using h), if_pos h2]
theorem frC_bound {f : PFr} (h : 97 ≤ f.k.toNat ∧ f.k.toNat ≤ 122) (h2 : ¬ ((0 ≤ f.e ∧ f.e ≤ 2147483648) ∧ (0 ≤ f.q ∧ f.q < 65536) ∧ f.d.length ≤ 20000)) : frC f = 2 := by unfold frC; rw [if_neg (by simpa using h), if_neg h2]
theorem frC_zero {f : PFr} (h : frC f = 0) : (97 ≤ f.k.toNat ∧ f.k.toNat ≤ 122) ∧ (0 ≤ f.e ∧ f.e ≤ 2147483648) ∧ (0 ≤ f.q ∧ f.q < 65536) ∧ f.d.length ≤ 20000 := by
  by_cases h1 : 97 ≤ f.k.toNat ∧ f.k.toNat ≤ 122
  · by_cases h2 : (0 ≤ f.e ∧ f.e ≤ 2147483648) ∧ (0 ≤ f.q ∧ f.q < 65536) ∧ f.d.length ≤ 20000
    · exact ⟨h1, h2⟩
    · rw [frC_bound h1 h2] at h; simp at h
  · rw [frC_kind h1] at h; simp at h
/-- four bytes of a sum, low ones first -/
def lowL (v : Nat) : List UInt8 := [UInt8.ofNat (v % 256), UInt8.ofNat (v / 256 % 256), UInt8.ofNat (v / 65536 % 256), UInt8.ofNat (v / 16777216 % 256)]
theorem lowL_len (v : Nat) : (lowL v).length = 4 := rfl
theorem ofNat_inj {a b : Nat} (ha : a < 256) (hb : b < 256) (h : UInt8.ofNat a = UInt8.ofNat b) : a = b := by
  have := congrArg UInt8.toNat h
  rw [byte_ofNat a ha, byte_ofNat b hb] at this
  exact this
theorem lowL_inj {a b : Nat} (ha : a < 4294967296) (hb : b < 4294967296) (h : lowL a = lowL b) : a = b := by
  unfold lowL at h
  simp only [List.cons.injEq, and_true] at h
  obtain ⟨h0, h1, h2, h3⟩ := h
  have h0 := ofNat_inj (by omega) (by omega) h0
  have h1 := ofNat_inj (by omega) (by omega) h1
  have h2 := ofNat_inj (by omega) (by omega) h2
  have h3 := ofNat_inj (by omega) (by omega) h3
  omega
/-- a frame's bytes ahead of its sum; all of them -/
def frB (f : PFr) : List UInt8 := f.k :: (num f.e.toNat ++ num f.q.toNat ++ (num f.d.length ++ f.d))
def frT (f : PFr) : List UInt8 := frB f ++ lowL (csum (frB f))
theorem frB_is (f : PFr) : frB f = f.k :: (num f.e.toNat ++ num f.q.toNat ++ (num f.d.length ++ f.d)) := rfl
theorem frT_is (f : PFr) : frT f = frB f ++ lowL (csum (frB f)) := rfl
/-- what a reader of a frame reads -/
def rdF (k : UInt8) (l : List UInt8) : PFr × Nat :=
  let l1 := rnR l 0; let c1 := rnC l 0; let l2 := rnR l1 c1; let c2 := rnC l1 c1
  (⟨k, rnN l 0, rnN l1 c1, rtT l2 c2⟩, rEnd (rtR l2 c2) (rtC l2 c2))
theorem rdF_is (k : UInt8) {l l1 l2 l3 : List UInt8} {c1 c2 c3 : Nat} (h1 : rnR l 0 = l1) (h2 : rnC l 0 = c1) (h3 : rnR l1 c1 = l2) (h4 : rnC l1 c1 = c2) (h5 : rtR l2 c2 = l3) (h6 : rtC l2 c2 = c3) : rdF k l = (⟨k, rnN l 0, rnN l1 c1, rtT l2 c2⟩, rEnd l3 c3) := by
  subst h1 h2 h3 h4 h5 h6; rfl
def decF (L : List UInt8) : PFr × Nat :=
  if L.length < 4 then (zfr, 1)
  else if lowL (csum (L.take (L.length - 4))) ≠ L.drop (L.length - 4) then (zfr, 10)
  else match L.take (L.length - 4) with
    | [] => (zfr, 1)
    | k :: l => if (rdF k l).2 ≠ 0 then (zfr, (rdF k l).2) else if frC (rdF k l).1 ≠ 0 then (zfr, frC (rdF k l).1) else ((rdF k l).1, 0)
theorem decF_short {L : List UInt8} (h : L.length < 4) : decF L = (zfr, 1) := by unfold decF; rw [if_pos h]
theorem decF_sum {L : List UInt8} (h : ¬ L.length < 4) (h2 : lowL (csum (L.take (L.length - 4))) ≠ L.drop (L.length - 4)) : decF L = (zfr, 10) := by unfold decF; rw [if_neg h, if_pos h2]
theorem decF_none {L : List UInt8} (h : L.length = 4) (h2 : lowL (csum (L.take (L.length - 4))) = L.drop (L.length - 4)) : decF L = (zfr, 1) := by
  unfold decF
  rw [if_neg (by omega), if_neg (by simpa using h2)]
  have e : L.take (L.length - 4) = [] := by rw [h]; rfl
  rw [e]
theorem decF_end {L l : List UInt8} {k : UInt8} {f : PFr} {c : Nat} (h : ¬ L.length < 4) (h2 : lowL (csum (L.take (L.length - 4))) = L.drop (L.length - 4)) (h3 : L.take (L.length - 4) = k :: l) (hr : rdF k l = (f, c)) (hc : c ≠ 0) : decF L = (zfr, c) := by
  unfold decF
  rw [if_neg h, if_neg (by simpa using h2), h3]
  simp only [hr]
  rw [if_pos hc]
theorem decF_bad {L l : List UInt8} {k : UInt8} {f : PFr} {c : Nat} (h : ¬ L.length < 4) (h2 : lowL (csum (L.take (L.length - 4))) = L.drop (L.length - 4)) (h3 : L.take (L.length - 4) = k :: l) (hr : rdF k l = (f, c)) (hc : c = 0) (hf : frC f ≠ 0) : decF L = (zfr, frC f) := by
  unfold decF
  rw [if_neg h, if_neg (by simpa using h2), h3]
  simp only [hr]
  rw [if_neg (by simp [hc]), if_pos hf]
theorem decF_fine {L l : List UInt8} {k : UInt8} {f : PFr} {c : Nat} (h : ¬ L.length < 4) (h2 : lowL (csum (L.take (L.length - 4))) = L.drop (L.length - 4)) (h3 : L.take (L.length - 4) = k :: l) (hr : rdF k l = (f, c)) (hc : c = 0) (hf : frC f = 0) : decF L = (f, 0) := by
  unfold decF
  rw [if_neg h, if_neg (by simpa using h2), h3]
  simp only [hr]
  rw [if_neg (by simp [hc]), if_neg (by simp [hf])]

/-! ### read as it was written -/
theorem rn_num' (n : Nat) (more : List UInt8) (h : n ≤ 1099511627776) : rnN (num n ++ more) 0 = n ∧ rnR (num n ++ more) 0 = more ∧ rnC (num n ++ more) 0 = 0 := by
  obtain ⟨a, b, c⟩ := rn_zero (num n ++ more)
  rw [a, b, c, gN_num n more h, gR_num n more h, gC_num n more h]
  exact ⟨rfl, rfl, rfl⟩
theorem dec_enc (f : PFr) (h : frC f = 0) : decF (frT f) = (f, 0) := by
  obtain ⟨hk, ⟨he1, he2⟩, ⟨hq1, hq2⟩, hd⟩ := frC_zero h
  have hl : (frT f).length = (frB f).length + 4 := by rw [frT_is, List.length_append, lowL_len]
  have ht : (frT f).take ((frT f).length - 4) = frB f := by rw [hl, frT_is]; simp
  have hdp : (frT f).drop ((frT f).length - 4) = lowL (csum (frB f)) := by rw [hl, frT_is]; simp
  obtain ⟨a1, a2, a3⟩ := rn_num' f.e.toNat (num f.q.toNat ++ (num f.d.length ++ f.d)) (by omega)
  obtain ⟨b1, b2, b3⟩ := rn_num' f.q.toNat (num f.d.length ++ f.d) (by omega)
  obtain ⟨c1, c2, c3⟩ := t_text f.d [] hd
  rw [List.append_nil] at c1 c2 c3
  have d1 := (rt_zero (num f.d.length ++ f.d)).1.trans c2
  have d2 := (rt_zero (num f.d.length ++ f.d)).2.1.trans c3
  have d3 := (rt_zero (num f.d.length ++ f.d)).2.2.trans c1
  have hr := rdF_is f.k a2 a3 b2 b3 d2 d3
  rw [a1, b1, d1, rEnd_nil] at hr
  refine decF_fine (l := num f.e.toNat ++ (num f.q.toNat ++ (num f.d.length ++ f.d))) (k := f.k) (c := 0) (by omega) (by rw [ht, hdp]) (by rw [ht, frB_is, List.append_assoc]) ?_ rfl h
  rw [hr]
  have e1 : ((f.e.toNat : Nat) : Int) = f.e := by omega
  have e2 : ((f.q.toNat : Nat) : Int) = f.q := by omega
  rw [e1, e2]
/-! ### what is read is written as it was -/
end Go.Proofs.YtppkeophochgiaaGreatDoor
/- A frame as a value. -/
namespace Go.Proofs.YtppkeophochgiaaGreatDoor
open Go.RowKit
set_option linter.unusedVariables false

def PFr.val (f : PFr) : Value := .agg #[.int .u8 f.k.toNat, .int .i64 f.e, .int .i64 f.q, .string (bs f.d)]
theorem PFr.val_is (f : PFr) : f.val = .agg #[.int .u8 f.k.toNat, .int .i64 f.e, .int .i64 f.q, .string (bs f.d)] := rfl
def PFr.ok (f : PFr) : Prop := (Lit.int .i64 f.e).wf = true ∧ (Lit.int .i64 f.q).wf = true ∧ f.d.length ≤ maxLen
end Go.Proofs.YtppkeophochgiaaGreatDoor
/- Contracts of package frame: Check, low, Encode. -/
namespace Go.Proofs.YtppkeophochgiaaGreatDoor
open Go.RowKit
set_option linter.unusedVariables false

set_option maxRecDepth 100000 in
set_option maxHeartbeats 1600000 in
theorem fcheck_any (E : Nat → Addr) (f : PFr) (w : World) (h2 : Has E w 2) (h4 : Has E w 4) : Calls Tryz.prog 222 #[f.val] w fun e w' => e = .returned (ev E (frC f)) ∧ Below w.heap.size w w' := by
  have z2 : 0 < w.heap.size := World.block_lt_of_cell? w _ h2
  have z4 : 3 < w.heap.size := World.block_lt_of_cell? w _ h4
  have c2 : w.cell? ⟨0, 0, none⟩ = some (errv (E 2)) := h2
  have c4 : w.cell? ⟨3, 0, none⟩ = some (errv (E 4)) := h4
  have HA := Lib.hid (fun o => below_alloc' w o)
  have V0 := Lib.hid (ev_zero E)
  have V2 := Lib.hid (ev_is E (c := 2) (by decide))
  have V4 := Lib.hid (ev_is E (c := 4) (by decide))
  have K := Lib.hid (frC_kind (f := f))
  have F := Lib.hid (frC_fine (f := f))
  have B := Lib.hid (frC_bound (f := f))
  rw [PFr.val_is]
  obtain ⟨k, e, q, d⟩ := f
  simp only [] at K F B ⊢
  have hk := k.toNat_lt
  clear h2 h4
  rcases (show ((k.toNat : Int) < 97 ∨ ¬ (k.toNat : Int) < 97 ∧ (122 : Int) < k.toNat) ∨ (¬ (k.toNat : Int) < 97 ∧ ¬ (122 : Int) < k.toNat) by omega) with (h | ⟨h, h'⟩) | ⟨h, h'⟩
  · have HC := Lib.hid (K.out (by omega))
    clear K F B
    go_enter Tryz.func222, Tryz.ntmps222
    go_wp2_with fail
    go_ret
    exact ⟨by rw [HC.out, V4.out]; rfl, HA.out _⟩
  · have HC := Lib.hid (K.out (by omega))
    clear K F B
    go_enter Tryz.func222, Tryz.ntmps222
    go_wp2_with fail
    go_ret
    exact ⟨by rw [HC.out, V4.out]; rfl, HA.out _⟩
  · by_cases hf : (0 ≤ e ∧ e ≤ 2147483648) ∧ (0 ≤ q ∧ q < 65536) ∧ d.length ≤ 20000
    · have HC := Lib.hid (F.out (by omega) hf)
      obtain ⟨⟨f1, f2⟩, ⟨f3, f4⟩, f5⟩ := hf
      have f6 : ¬ (20000 : Int) < d.length := by omega
      clear K F B
      go_enter Tryz.func222, Tryz.ntmps222
      go_wp2_with fail
      go_ret
      exact ⟨by rw [HC.out, V0.out]; rfl, HA.out _⟩
    · have HC := Lib.hid (B.out (by omega) hf)
      clear K F B
      rcases (show e < 0 ∨ ¬ e < 0 ∧ 2147483648 < e ∨ (¬ e < 0 ∧ ¬ 2147483648 < e) ∧ q < 0 ∨ (¬ e < 0 ∧ ¬ 2147483648 < e) ∧ ¬ q < 0 ∧ 65536 ≤ q ∨ (¬ e < 0 ∧ ¬ 2147483648 < e) ∧ (¬ q < 0 ∧ ¬ 65536 ≤ q) ∧ (20000 : Int) < d.length by omega) with g | ⟨g, g1⟩ | ⟨⟨g, g1⟩, g2⟩ | ⟨⟨g, g1⟩, g2, g3⟩ | ⟨⟨g, g1⟩, ⟨g2, g3⟩, g4⟩
      all_goals
        clear hf
        go_enter Tryz.func222, Tryz.ntmps222
        go_wp2_with fail
        go_ret
        exact ⟨by rw [HC.out, V2.out]; rfl, HA.out _⟩

theorem conv_four {P : Program} (w : World) (S D E : TypeId) (hs : P.underlying S = some (.slice E)) (he : P.underlying E = some (.int .u8)) (hd : P.underlying D = some .string)
    (b cap : Nat) (c0 c1 c2 c3 : UInt8) (h0 : w.cell? ⟨b, 0, none⟩ = some (.int .u8 c0.toNat)) (h1 : w.cell? ⟨b, 1, none⟩ = some (.int .u8 c1.toNat)) (h2 : w.cell? ⟨b, 2, none⟩ = some (.int .u8 c2.toNat)) (h3 : w.cell? ⟨b, 3, none⟩ = some (.int .u8 c3.toNat)) :
    (convert S D (.slice (some ⟨b, 0, none⟩) 4 cap)).run P w = .ok (.string ⟨#[c0, c1, c2, c3]⟩) w :=
  run_convert_bytes_back w S D E ⟨b, 0, none⟩ cap [c0, c1, c2, c3] hs he hd (fun j hj => by
    match j, hj with
    | 0, _ => simpa [Addr.add] using h0
    | 1, _ => simpa [Addr.add] using h1
    | 2, _ => simpa [Addr.add] using h2
    | 3, _ => simpa [Addr.add] using h3)
set_option maxRecDepth 100000 in
set_option maxHeartbeats 1600000 in
theorem low_any (v : Nat) (w : World) (hv : v < 4294967296) : Calls Tryz.prog 218 #[.int .u32 v] w fun e w' => e = .returned (.string (bs (lowL v))) ∧ Below w.heap.size w w' := by
  have HLW := Lib.hid (show bs (lowL v) = ⟨#[UInt8.ofNat (v % 256), UInt8.ofNat (v / 256 % 256), UInt8.ofNat (v / 65536 % 256), UInt8.ofNat (v / 16777216 % 256)]⟩ by unfold bs lowL; rfl)
  have m0 := byte_ofNat (v % 256) (by omega)
  have m1 := byte_ofNat (v / 256 % 256) (by omega)
  have m2 := byte_ofNat (v / 65536 % 256) (by omega)
  have m3 := byte_ofNat (v / 16777216 % 256) (by omega)
  have CV := fun (w' : World) (b : Nat) h0 h1 h2 h3 => conv_four (P := Tryz.prog) w' 107 9 5 Tryz.underlying107 Tryz.underlying5 Tryz.underlying9 b 4 (UInt8.ofNat (v % 256)) (UInt8.ofNat (v / 256 % 256)) (UInt8.ofNat (v / 65536 % 256)) (UInt8.ofNat (v / 16777216 % 256)) h0 h1 h2 h3
  rw [m0, m1, m2, m3] at CV
  have HCV := Lib.hid CV
  clear CV m0 m1 m2 m3
  have hcv := HCV.out (w.alloc (.cells #[.int .u8 ((v : Int) % 256), .int .u8 ((v : Int) / 256 % 256), .int .u8 ((v : Int) / 65536 % 256), .int .u8 ((v : Int) / 16777216)] 5)) w.heap.size (by simp) (by simp) (by simp) (by simp; omega)
  go_enter Tryz.func218, Tryz.ntmps218
  go_wp2_with fail
  go_ret
  exact ⟨by rw [HLW.out]; rfl, below_alloc' _ _⟩
end Go.Proofs.YtppkeophochgiaaGreatDoor
