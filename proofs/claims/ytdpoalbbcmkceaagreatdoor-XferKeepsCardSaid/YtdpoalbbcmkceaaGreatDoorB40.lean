/- Texts of one proof, one behind the other: FilIns, RefFilGet, OwnFl. -/
import Derived.Test.YtdpoalbbcmkceaaGreatDoorB36
import Derived.Test.YtdpoalbbcmkceaaGreatDoorB22
/- Contract of slices.Insert at files, one element. -/
namespace Go.Proofs.YtdpoalbbcmkceaaGreatDoor
open Go.RowKit
set_option linter.unusedVariables false

theorem fcells_take (l : List PF) (k : Nat) : (fcells l).take (k * 2) = fcells (l.take k) := rowc_take _ _ l k
theorem fcells_drop (l : List PF) (k : Nat) : (fcells l).drop (k * 2) = fcells (l.drop k) := by
  induction l generalizing k with
  | nil => simp [fcells_nil]
  | cons o l ih =>
    match k with
    | 0 => simp
    | k + 1 =>
      rw [List.drop_succ_cons, ← ih k, show (k + 1) * 2 = k * 2 + 2 by omega]
      rfl
theorem chg_row {w w' : World} {v : Value} (h : w.grownBy w' v.ownBlock) : Chg w w' (RowOf v) := ⟨h.os, h.tape, h.output, h.size, fun k hk hn => h.block k hk (fun e => hn e.symm)⟩
theorem rowOf_any {va : Option Addr} {n c n' c' x : Nat} (h : RowOf (.slice va n c) x) : RowOf (.slice va n' c') x := by cases va <;> exact h
theorem sizeFile : (Tryz.prog.info? 49).map (·.size) = some 2 := by kernel_rfl
theorem two_newsF {w : World} {b : Nat} {u0 u1 : Value} {t : TypeId} (h : w.heap[b]? = some (.cells #[u0, u1] t (0, 0))) : ∀ j u', [u0, u1][j]? = some u' → w.cell? ((⟨b, 0, none⟩ : Addr).add j) = some u' := by
  intro j u' hj
  match j, hj with
  | 0, hj => simp at hj; subst hj; simp [World.cell?, h, Addr.add]
  | 1, hj => simp at hj; subst hj; simp [World.cell?, h, Addr.add]
theorem slice_one {w : World} {b : Nat} {f : PF} (h : w.heap[b]? = some (.cells #[.string (bs f.n), .string (bs f.d)] 49 (0, 0))) : SliceIs w (.slice (some ⟨b, 0, none⟩) 1 1) 2 (fcells [f]) :=
  .inr ⟨_, 1, 1, rfl, Nat.le_refl _, by unfold maxLen; omega, rfl, two_newsF h⟩
set_option maxRecDepth 100000 in
set_option maxHeartbeats 3200000 in
/-- at the end -/
theorem ins_end (l : List PF) (f : PF) (base vb : Nat) (v : Value) (w : World) (hown : w.ownsRow base 49 2 v l.length (fcells l)) (hvb : w.heap[vb]? = some (.cells #[.string (bs f.n), .string (bs f.d)] 49 (0, 0))) (hbase : base ≤ w.heap.size) (hlen : l.length ≤ 1000000) :
    Calls Tryz.prog 140 #[v, .int .i64 l.length, .slice (some ⟨vb, 0, none⟩) 1 1] w fun e w' => ∃ r, e = .returned r ∧ w'.ownsRow base 49 2 r (l.length + 1) (fcells (l ++ [f])) ∧ Chg w w' (RowOf v) := by
  obtain ⟨i0, hi, hz0, hz1, hz2⟩ := info_parts infoFile
  have HO := Lib.hid hown
  have HV := Lib.hid (slice_one hvb)
  obtain ⟨va, vc, rfl⟩ := owns_slice hown
  have HN1 : Hid (l.length + 1 ≤ maxLen) := by show _ ≤ _; unfold maxLen; omega
  have HN2 : Hid ((l.length + 1) * 32 ≤ 140737488355328) := by show _ ≤ _; omega
  have LEN := Lib.hid (fcells_len [f])
  have hcap : l.length ≤ vc ∧ vc ≤ maxLen := by
    obtain ⟨s, n, c, e, _, h1, h2, _⟩ := (SliceIs.ownedK hown).get
    cases e; exact ⟨h1, h2⟩
  obtain ⟨hc1, hc2⟩ := hcap
  unfold maxLen at hc2
  have y0 : (0 : Int) ≤ l.length := by omega
  have y1 : (l.length : Int).toNat = l.length := by omega
  have y2 : (l.length : Int) ≤ l.length := by omega
  clear hown hvb
  go_enter Tryz.func140, Tryz.ntmps140
  go_wp2_with (at_builtin; refine wpList_append_is rfl (.tmp 23) (.tmp 24) 22 rfl base 49 i0 _ 2 32 Tryz.underlying22 hi hz0 hz1 hz2 rfl (by decide) _ l.length _ rfl HO.out _ 1 _ rfl HV.out LEN.out (fcells_cell [f]) HN1.out HN2.out hbase ?_; intro v' w5 hown5 hgrow _; have HO5 := Lib.hid hown5; have HG5 := Lib.hid (chg_row hgrow); clear hown5 hgrow)
  all_goals
    go_ret
    exact ⟨_, rfl, by rw [fcells_append]; exact HO5.out, (show Chg w w5 (RowOf (.slice va l.length vc)) from HG5.out).more (fun x _ h => rowOf_any h)⟩

theorem shape_cells {w : World} {b : Nat} {cs : Array Value} {t : TypeId} {fr : Nat × Nat} (h : w.heap[b]? = some (.cells cs t fr)) : w.shape? b = some (t, cs.size) := by simp [World.shape?, h]
set_option maxRecDepth 100000 in
theorem overl_any (vb g o la ca lb cb : Nat) (w : World) (hne : vb ≠ g) {cv cg : Array Value} {tv tg : TypeId} (hv : w.heap[vb]? = some (.cells cv tv (0, 0))) (hg : w.heap[g]? = some (.cells cg tg (0, 0))) (hgs : cg.size ≠ 0) :
    (callFunc 148 #[.slice (some ⟨vb, 0, none⟩) la ca, .slice (some ⟨g, o, none⟩) lb cb]).run Tryz.prog w = .ok (.value (.bool false)) w := by
  rw [run_callFunc_extern Tryz.func148 (by kernel_rfl) (by kernel_rfl) (by kernel_rfl) (e := Extern.SlicesOverlaps.overlaps #[22, 22] #[4]) (by kernel_rfl),
    Lib.run_overlaps_apart w 22 4 49 Tryz.underlying22 2 Tryz.sizeOf49 ⟨vb, 0, none⟩ ⟨g, o, none⟩ la ca lb cb hne tv tg cv.size cg.size (shape_cells hv) (shape_cells hg) hgs (by simp [World.frozen?, hv]) (by simp [World.frozen?, hv])]
  rfl
theorem ins_cells (l : List PF) (ys : List Value) {i : Nat} (hi : i < l.length) (hys : ys.length = (l.length + 1 - l.length) * 2) {c : List Value} :
    ((fcells l ++ ys).take ((i + 1) * 2) ++ fcells (l.drop i) ++ (fcells l ++ ys).drop ((i + 1 + (l.length - i)) * 2)).take (i * 2) ++ c ++ ((fcells l ++ ys).take ((i + 1) * 2) ++ fcells (l.drop i) ++ (fcells l ++ ys).drop ((i + 1 + (l.length - i)) * 2)).drop ((i + 1) * 2) = fcells (l.take i) ++ (c ++ fcells (l.drop i)) := by
  have h1 : (fcells l ++ ys).drop ((i + 1 + (l.length - i)) * 2) = [] := List.drop_of_length_le (by rw [List.length_append, fcells_len, hys]; omega)
  have h2 : (fcells l ++ ys).take ((i + 1) * 2) = fcells (l.take (i + 1)) := by rw [List.take_append_of_le_length (by rw [fcells_len]; omega), fcells_take]
  have h3 : (fcells (l.take (i + 1))).length = (i + 1) * 2 := by rw [fcells_len, List.length_take]; omega
  rw [h1, h2, List.append_nil, List.take_append_of_le_length (by rw [h3]; omega), fcells_take, List.take_take, Nat.min_eq_left (by omega), List.drop_append_of_le_length (by rw [h3]; exact Nat.le_refl _), List.drop_of_length_le (by rw [h3]; exact Nat.le_refl _), List.nil_append, List.append_assoc]
set_option maxRecDepth 100000 in
set_option maxHeartbeats 6400000 in
/-- ahead of the end, with room -/
theorem ins_room (l : List PF) (f : PF) (i base vb g cap : Nat) (w : World) (hown : w.ownsRow base 49 2 (.slice (some ⟨g, 0, none⟩) l.length cap) l.length (fcells l)) (hvb : w.heap[vb]? = some (.cells #[.string (bs f.n), .string (bs f.d)] 49 (0, 0))) (hne : vb ≠ g) (hi : i < l.length) (hroom : l.length + 1 ≤ cap) (hlen : l.length ≤ 1000000) :
    Calls Tryz.prog 140 #[.slice (some ⟨g, 0, none⟩) l.length cap, .int .i64 i, .slice (some ⟨vb, 0, none⟩) 1 1] w fun e w' => ∃ r, e = .returned r ∧ w'.ownsRow base 49 2 r (l.length + 1) (fcells (l.take i ++ f :: l.drop i)) ∧ Chg w w' (RowOf (.slice (some ⟨g, 0, none⟩) l.length cap)) := by
  obtain ⟨ys, hys, HX⟩ := own_extend hown (k := l.length + 1) (by omega) hroom
  have hd := HX.drew
  have hcl : (fcells (l.drop i)).length = (l.length - i) * 2 := by rw [fcells_len, List.length_drop]
  obtain ⟨w1, hrun1, O1, G1⟩ := run_copy_own (dT := 22) (sT := 22) hd Tryz.underlying22 sizeFile (o := i + 1) (m := l.length - i) hcl (by omega) (fcells_cell _)
  obtain ⟨w2, hrun2, O2, G2⟩ := run_copy_own (dT := 22) (sT := 22) O1 Tryz.underlying22 sizeFile (o := i) (m := 1) (fcells_len [f]) (by omega) (fcells_cell [f])
  have hg0 : ∃ cur, w.heap[g]? = some (.cells cur 49 (0, 0)) ∧ cur.size ≠ 0 := by
    obtain ⟨_, h2⟩ := hown
    rcases h2 with ⟨h2, _⟩ | ⟨g', cap', cur, hv, _, hh, h3, _, h5, _⟩
    · cases h2
    · cases hv; exact ⟨cur, hh, by rw [h5]; omega⟩
  obtain ⟨cur, hg1, hg2⟩ := hg0
  have hov : ∀ o lb cb, (callFunc 148 #[.slice (some ⟨vb, 0, none⟩) 1 1, .slice (some ⟨g, o, none⟩) lb cb]).run Tryz.prog w = .ok (.value (.bool false)) w := fun o lb cb => overl_any vb g o 1 1 lb cb w hne hvb hg1 hg2
  have hcm : cap ≤ 9223372036854775807 := by
    obtain ⟨s, n, c, e, _, h1, h2, _⟩ := (SliceIs.ownedK hown).get
    cases e; unfold maxLen at h2; omega
  have hvw1 : w1.heap[vb]? = some (.cells #[.string (bs f.n), .string (bs f.d)] 49 (0, 0)) := (G1.block vb (lt_of_block (w := w) hvb) (fun e => by cases e; exact hne rfl)).trans hvb
  have hfin : fcells (l.take i ++ f :: l.drop i) = ((fcells l ++ ys).take ((i + 1) * 2) ++ fcells (l.drop i) ++ (fcells l ++ ys).drop ((i + 1 + (l.length - i)) * 2)).take (i * 2) ++ fcells [f] ++ ((fcells l ++ ys).take ((i + 1) * 2) ++ fcells (l.drop i) ++ (fcells l ++ ys).drop ((i + 1 + (l.length - i)) * 2)).drop ((i + 1) * 2) := by
    rw [ins_cells l ys hi hys]
    rw [fcells_append]
    rfl
  have HRUN1 := Lib.hid hrun1
  have HRUN2 := Lib.hid hrun2
  have HO2 := Lib.hid O2
  have HFIN := Lib.hid hfin
  have HG1 := Lib.hid G1
  have HG2 := Lib.hid G2
  have SRC1 : Hid (∀ j v, (fcells (l.drop i))[j]? = some v → w.drew.cell? ((⟨g, i * 2, none⟩ : Addr).add j) = some v) := Lib.hid (fun j v hj => by
    have h1 := (hd.cells (g := g) rfl) (i * 2 + j) v (by
      rw [List.getElem?_append_left (by rw [fcells_len]; have := (List.getElem?_eq_some_iff.1 hj).1; rw [hcl] at this; omega)]
      rw [← fcells_drop, List.getElem?_drop] at hj
      exact hj)
    rw [Addr.add_lit] at h1 ⊢
    rw [Nat.zero_add] at h1
    exact h1)
  have MIN1 := Lib.hid (show Nat.min (l.length + 1 - i) (l.length + 1 - (i + 1)) = l.length - i by simp only [Nat.min_def]; split <;> omega)
  have MIN2 := Lib.hid (show Nat.min 1 (l.length + 1 - i) = 1 by simp only [Nat.min_def]; split <;> omega)
  have SRC2 := Lib.hid (two_newsF hvw1)
  have y1 : (0 : Int) ≤ i := by omega
  have y2 : (i : Int).toNat = i := by omega
  have y3 : (i : Int) ≤ l.length := by omega
  have y4 : ¬ ((i : Int) = l.length) := by omega
  have y5 : ((i : Int) == l.length) = false := by simpa using y4
  have y6 : ¬ (cap : Int) < (l.length : Int) + 1 := by omega
  have y7 : (l.length : Int) + 1 ≤ cap := by omega
  have y8 : ((l.length : Int) + 1).toNat = l.length + 1 := by omega
  have y9 : ((i : Int) + 1).toNat = i + 1 := by omega
  have ya : (i : Int) + 1 ≤ (l.length : Int) + 1 := by omega
  have yb : ¬ cap = i := by omega
  have yf : (i : Int) ≤ (l.length : Int) + 1 := by omega
  have yd : IntKind.i64.wrap ((i : Int) + 1) = (i : Int) + 1 := IntWalk.i64_in _ (by omega)
  have ye : (0 : Int) ≤ (i : Int) + 1 := by omega
  have yc : ¬ cap = i + 1 := by omega
  clear hown hvb HX hd hrun1 hrun2 O1 O2 G1 G2 hfin hvw1 hg1 hg2 hys hcl
  go_enter Tryz.func140, Tryz.ntmps140
  go_wp2_with (simp only [hov])
  go_region_law (refine step_copy_run rfl (.tmp 73) (.tmp 76) 22 22 rfl _ _ (by simp [Act.eval, Act.put]) (by simp [Act.eval, Act.put]) (HRUN1.out _ (l.length + 1 - (i + 1)) (cap - (i + 1)) ⟨g, i * 2, none⟩ (l.length + 1 - i) (cap - i) MIN1.out SRC1.out) ?_)
  all_goals
    go_wp2_with (refine wpList_copy_run rfl (.tmp 80) (.tmp 81) 22 22 rfl _ _ rfl rfl (HRUN2.out _ (l.length + 1 - i) (cap - i) ⟨vb, 0, none⟩ 1 1 MIN2.out SRC2.out) ?_)
    go_ret
    refine ⟨_, rfl, ?_, ?_⟩
    · rw [HFIN.out]; exact HO2.out
    · exact ((Chg.refl w _).drew.trans (Chg.of_grown HG1.out) (fun x _ h => by subst h; rfl)).trans (Chg.of_grown HG2.out) (fun x _ h => by subst h; rfl)
end Go.Proofs.YtdpoalbbcmkceaaGreatDoor
/- Contract of slices.Insert at files, ahead of the end, where the row must grow. -/
namespace Go.Proofs.YtdpoalbbcmkceaaGreatDoor
open Go.RowKit
set_option linter.unusedVariables false

theorem file_zero : ∃ i0 z, Tryz.prog.info? 49 = some i0 ∧ i0.zero = some z ∧ i0.size = 2 ∧ i0.bytes = 32 ∧ z.cells.size = 2 := by
  obtain ⟨i0, hi, hz0, hz1, hz2⟩ := info_parts infoFile
  exact ⟨i0, _, hi, hz0, hz1, hz2, rfl⟩
theorem grow_cells (l : List PF) (f : PF) (zs : List Value) {i k : Nat} (hi : i < l.length) (hk : i + k = l.length + 1) (hzs : zs.length = k * 2) :
    (((fcells l).take (i * 2) ++ zs).take (i * 2) ++ fcells [f] ++ ((fcells l).take (i * 2) ++ zs).drop ((i + 1) * 2)).take ((i + 1) * 2) ++ fcells (l.drop i) ++ (((fcells l).take (i * 2) ++ zs).take (i * 2) ++ fcells [f] ++ ((fcells l).take (i * 2) ++ zs).drop ((i + 1) * 2)).drop ((i + 1 + (k - 1)) * 2) = fcells (l.take i ++ f :: l.drop i) := by
  have h1 : ((fcells l).take (i * 2)).length = i * 2 := by rw [List.length_take, fcells_len]; omega
  have h2 : ((fcells l).take (i * 2) ++ zs).take (i * 2) = fcells (l.take i) := by rw [List.take_append_of_le_length (by rw [h1]; exact Nat.le_refl _), List.take_take, Nat.min_self, fcells_take]
  have h4 : (fcells (l.take i) ++ fcells [f]).length = (i + 1) * 2 := by rw [List.length_append, fcells_len, fcells_len, List.length_take]; simp; omega
  rw [h2]
  have h5 : (fcells (l.take i) ++ fcells [f] ++ ((fcells l).take (i * 2) ++ zs).drop ((i + 1) * 2)).drop ((i + 1 + (k - 1)) * 2) = [] := List.drop_of_length_le (by rw [List.length_append, h4, List.length_drop, List.length_append, h1, hzs]; omega)
  rw [h5, List.append_nil, List.take_append_of_le_length (by rw [h4]; exact Nat.le_refl _), List.take_of_length_le (by rw [h4]; exact Nat.le_refl _), fcells_append, List.append_assoc]
  rfl
set_option maxRecDepth 100000 in
set_option maxHeartbeats 6400000 in
theorem ins_grow (l : List PF) (f : PF) (i base vb g cap : Nat) (w : World) (hown : w.ownsRow base 49 2 (.slice (some ⟨g, 0, none⟩) l.length cap) l.length (fcells l)) (hvb : w.heap[vb]? = some (.cells #[.string (bs f.n), .string (bs f.d)] 49 (0, 0))) (hi : i < l.length) (hroom : cap < l.length + 1) (hbase : base ≤ w.heap.size) (hlen : l.length ≤ 1000000) :
    Calls Tryz.prog 140 #[.slice (some ⟨g, 0, none⟩) l.length cap, .int .i64 i, .slice (some ⟨vb, 0, none⟩) 1 1] w fun e w' => ∃ r, e = .returned r ∧ w'.ownsRow base 49 2 r (l.length + 1) (fcells (l.take i ++ f :: l.drop i)) ∧ Chg w w' (RowOf (.slice (some ⟨g, 0, none⟩) l.length cap)) := by
  obtain ⟨k, hk⟩ : ∃ k, i + k = l.length + 1 := ⟨l.length + 1 - i, by omega⟩
  obtain ⟨i0, z, hi0, hz0, hz1, hz2, hz3⟩ := file_zero
  have hcl : (fcells (l.drop i)).length = (k - 1) * 2 := by rw [fcells_len, List.length_drop]; omega
  have hg0 : ∃ cur, w.heap[g]? = some (.cells cur 49 (0, 0)) := by
    obtain ⟨_, h2⟩ := hown
    rcases h2 with ⟨h2, _⟩ | ⟨g', cap', cur, hv, _, hh, h3, _, h5, _⟩
    · cases h2
    · cases hv; exact ⟨cur, hh⟩
  obtain ⟨cur, hg1⟩ := hg0
  have hgl := lt_of_block hg1
  have hvl := lt_of_block hvb
  obtain ⟨w1, G, hrun0, O0, B0⟩ := run_append_zeros_own (t := 22) (tn := 3) hown Tryz.underlying22 Tryz.underlying3 hi0 hz0 hz1 hz2 hz3 (by decide) (i := i) (k := k) (by omega) (by omega) (by omega) (by unfold maxLen; omega) (by omega) hbase
  obtain ⟨w2, hrun1, O1, G1⟩ := run_copy_own (dT := 22) (sT := 22) O0 Tryz.underlying22 sizeFile (o := i) (m := 1) (fcells_len [f]) (by omega) (fcells_cell [f])
  obtain ⟨w3, hrun2, O2, G2⟩ := run_copy_own (dT := 22) (sT := 22) O1.drew Tryz.underlying22 sizeFile (o := i + 1) (m := k - 1) hcl (by omega) (fcells_cell _)
  rw [grow_cells l f _ hi hk (by rw [Array.length_toList, size_zeroCells, hz3])] at O2
  have hvw1 : w1.heap[vb]? = some (.cells #[.string (bs f.n), .string (bs f.d)] 49 (0, 0)) := (B0.block vb hvl).trans hvb
  have hgw2 : w2.heap[g]? = w.heap[g]? := (G1.block g (Nat.lt_of_lt_of_le hgl B0.size) (fun e => by cases e; omega)).trans (B0.block g hgl)
  have HRUN0 := Lib.hid hrun0
  have HRUN1 := Lib.hid hrun1
  have HRUN2 := Lib.hid hrun2
  have HO2 := Lib.hid O2
  have HB0 := Lib.hid B0
  have HG1 := Lib.hid G1
  have HG2 := Lib.hid G2
  have SRC1 := Lib.hid (two_newsF hvw1)
  have SRC2 : Hid (∀ j v, (fcells (l.drop i))[j]? = some v → w2.drew.cell? ((⟨g, i * 2, none⟩ : Addr).add j) = some v) := Lib.hid (fun j v hj => by
    have h1 := (hown.cells (g := g) rfl) (i * 2 + j) v (by
      rw [← fcells_drop, List.getElem?_drop] at hj
      exact hj)
    rw [Addr.add_lit] at h1 ⊢
    rw [Nat.zero_add] at h1
    have h2 : w2.drew.heap[g]? = w.heap[g]? := hgw2
    simp only [World.cell?] at h1 ⊢
    rw [h2]
    exact h1)
  have MIN1 := Lib.hid (show Nat.min 1 (l.length + 1 - i) = 1 by simp only [Nat.min_def]; split <;> omega)
  have MIN2 := Lib.hid (show Nat.min (l.length - i) (l.length + 1 - (i + 1)) = k - 1 by simp only [Nat.min_def]; split <;> omega)
  have yl : l.length ≤ cap := by have := (SliceIs.ownedK hown).get; obtain ⟨s, n, c, e, _, h1, h2, _⟩ := this; cases e; omega
  have y1 : (0 : Int) ≤ i := by omega
  have y2 : (i : Int).toNat = i := by omega
  have y3 : (i : Int) ≤ l.length := by omega
  have y4 : ¬ ((i : Int) = l.length) := by omega
  have y5 : ((i : Int) == l.length) = false := by simpa using y4
  have y6 : (cap : Int) < (l.length : Int) + 1 := by omega
  have y7 : (i : Int) ≤ cap := by omega
  have yG : l.length + 1 ≤ G := by have := (SliceIs.ownedK O0).get; obtain ⟨s, n, c, e, _, h1, h2, _⟩ := this; cases e; omega
  have yc : ¬ G = i + 1 := by omega
  have yi : (i : Int) + 1 ≤ (l.length : Int) + 1 := by omega
  have yj : (i : Int) ≤ (l.length : Int) + 1 := by omega
  have yk : ¬ cap = i := by omega
  have y8 : (l.length : Int) + 1 - i = k := by omega
  have yb : IntKind.i64.wrap (k : Int) = k := IntWalk.i64_in _ (by omega)
  have Y := Lib.hid (show (l.length : Int) + 1 - i = k from y8)
  have yd : IntKind.i64.wrap ((i : Int) + 1) = (i : Int) + 1 := IntWalk.i64_in _ (by omega)
  have ye : (0 : Int) ≤ (i : Int) + 1 := by omega
  have ya : (i : Int) + 1 ≤ (i : Int) + k := by omega
  have yf : ((i : Int) + 1).toNat = i + 1 := by omega
  have yg : (i : Int) ≤ (i : Int) + k := by omega
  have LT := Lib.hid (And.intro hgl hvl)
  have HROOM := Lib.hid hroom
  have HI := Lib.hid hi
  have HK := Lib.hid hk
  clear hown hvb hrun0 hrun1 hrun2 O0 O1 O2 B0 G1 G2 hvw1 hg1 hgw2 hcl hi0 hz0 hz1 hz2 hz3 hgl hvl hroom hbase y4
  clear i0 z cur
  go_enter Tryz.func140, Tryz.ntmps140
  go_wp2_with (first | refine wpList_append_run rfl (.tmp 34) (.tmp 39) 22 3 rfl (.slice (some ⟨g, 0, none⟩) i cap) (.int .i64 k) rfl rfl (HRUN0.out _) ?_ | refine wpList_copy_run rfl (.tmp 43) (.tmp 44) 22 22 rfl _ _ rfl rfl (HRUN1.out _ (l.length + 1 - i) (G - i) ⟨vb, 0, none⟩ 1 1 MIN1.out SRC1.out) ?_)
  go_region_law (refine step_copy_run rfl (.tmp 50) (.tmp 53) 22 22 rfl _ _ (by simp [Act.eval, Act.put]) (by simp [Act.eval, Act.put]) (HRUN2.out _ (l.length + 1 - (i + 1)) (G - (i + 1)) ⟨g, i * 2, none⟩ (l.length - i) (cap - i) MIN2.out SRC2.out) ?_)
  all_goals
    go_wp2_with fail
    go_ret
    refine ⟨_, rfl, (show w3.ownsRow base 49 2 (.slice (some ⟨w.heap.size, 0, none⟩) (l.length + 1) G) (l.length + 1) (fcells (l.take i ++ f :: l.drop i)) by rw [← hk]; exact HO2.out), ?_⟩
    exact (((Chg.of_below HB0.out (RowOf (.slice (some ⟨g, 0, none⟩) l.length cap))).trans (Chg.of_grown HG1.out) (fun x hx h => absurd hx (by subst h; exact Nat.lt_irrefl _))).drew.trans (Chg.of_grown HG2.out) (fun x hx h => absurd hx (by subst h; exact Nat.lt_irrefl _)))
set_option maxRecDepth 100000 in
/-- slices.Insert of one file -/
theorem insert_any (l : List PF) (f : PF) (i base vb : Nat) (v : Value) (w : World) (hown : w.ownsRow base 49 2 v l.length (fcells l)) (hvb : w.heap[vb]? = some (.cells #[.string (bs f.n), .string (bs f.d)] 49 (0, 0))) (hne : ¬ RowOf v vb) (hi : i ≤ l.length) (hbase : base ≤ w.heap.size) (hlen : l.length ≤ 1000000) :
    Calls Tryz.prog 140 #[v, .int .i64 i, .slice (some ⟨vb, 0, none⟩) 1 1] w fun e w' => ∃ r, e = .returned r ∧ w'.ownsRow base 49 2 r (l.length + 1) (fcells (l.take i ++ f :: l.drop i)) ∧ Chg w w' (RowOf v) := by
  by_cases he : i = l.length
  · subst he
    refine (ins_end l f base vb v w hown hvb hbase hlen).mono ?_
    rintro e w' ⟨r, rfl, h1, h2⟩
    exact ⟨r, rfl, by rw [List.take_length, List.drop_length]; exact h1, h2⟩
  · have hv : ∃ g cap, v = .slice (some ⟨g, 0, none⟩) l.length cap := by
      obtain ⟨_, h2⟩ := hown
      rcases h2 with ⟨_, h2⟩ | ⟨g', cap', cur, hv, _, hh, h3, _, h5, _⟩
      · omega
      · exact ⟨g', cap', hv⟩
    obtain ⟨g, cap, rfl⟩ := hv
    by_cases hr : l.length + 1 ≤ cap
    · exact ins_room l f i base vb g cap w hown hvb (fun e => hne (by subst e; rfl)) (by omega) hr hlen
    · exact ins_grow l f i base vb g cap w hown hvb (by omega) (by omega) hbase hlen
end Go.Proofs.YtdpoalbbcmkceaaGreatDoor
/- Contracts of files.find and files.Put. -/
namespace Go.Proofs.YtdpoalbbcmkceaaGreatDoor
open Go.RowKit
set_option linter.unusedVariables false

theorem place_there {l : List PF} {n d : List UInt8} (hs : l.Pairwise fun a b => ltL a.n b.n = true) (h : fgetL l n = some d) : ∃ hp : placeL l n < l.length, (l[placeL l n]'hp).n = n := by
  obtain ⟨j, hj, hje⟩ := List.getElem_of_mem (fgetL_some h)
  have hjn : l[j].n = n := by rw [hje]
  have hP := List.pairwise_iff_getElem.1 hs
  have e : j = placeL l n := by
    refine place_of hs (Nat.le_of_lt hj) (fun i hi hij => ?_) (fun i hi hij => ?_)
    · have := hP i j hi hj hij; rw [hjn] at this; exact this
    · rcases Nat.lt_or_eq_of_le hij with hl | rfl
      · have := hP j i hj hi hl; rw [hjn] at this; exact ltL_asymm this
      · rw [hjn]; exact ltL_irrefl _
  subst e
  exact ⟨hj, hjn⟩
theorem fcells_setd {l : List PF} {p : Nat} (hp : p < l.length) (n d : List UInt8) (hn : l[p].n = n) : (fcells l).set (p * 2 + 1) (.string (bs d)) = fcells (l.set p ⟨n, d⟩) := by
  have h := rowc_set fn0 fn1 l p ⟨n, d⟩
  have h0 : (fcells l).set (p * 2) (.string (bs n)) = fcells l := by
    obtain ⟨g, _⟩ := fcells_get l p hp
    rw [hn] at g
    refine List.ext_getElem? fun i => ?_
    rw [List.getElem?_set]
    split
    · rename_i e
      subst e
      split
      · exact g.symm
      · rename_i e2; rw [List.getElem?_eq_none (by omega)] at g; cases g
    · rfl
  have h1 : (((fcells l).set (p * 2) (.string (bs n))).set (p * 2 + 1) (.string (bs d))) = fcells (l.set p ⟨n, d⟩) := h
  rw [h0] at h1
  exact h1
set_option maxRecDepth 100000 in
theorem ffind_any (l : List PF) (v : Value) (n : List UInt8) (w : World) (hl : SliceIs w v 2 (fcells l)) (hs : l.Pairwise fun a b => ltL a.n b.n = true) (hlen : l.length ≤ 1000000) :
    Calls Tryz.prog 139 #[v, .string (bs n)] w fun e w' => e = .returned (.tuple #[.int .i64 (placeL l n), .bool (fgetL l n).isSome]) ∧ Below w.heap.size w w' := by
  have KEY := Lib.hid (bsf_any l v n w hl hs hlen)
  obtain ⟨s, m, c, rfl, _⟩ := hl.get
  clear hl
  go_enter Tryz.func139, Tryz.ntmps139
  go_wp2_with fail
  refine KEY.out.mono ?_
  rintro e w1 ⟨rfl, b1⟩
  have HB := Lib.hid b1
  clear b1 KEY
  go_wp2_with fail
  go_ret2
  exact ⟨rfl, HB.out⟩
def putF (l : List PF) (n d : List UInt8) : Nat × Int := if (flFault l).1 ≠ 0 then flFault l else flFault (fputL l n d)
theorem putF_bad {l : List PF} {n d : List UInt8} (h : (flFault l).1 ≠ 0) : putF l n d = flFault l := by unfold putF; rw [if_pos h]
theorem putF_ok {l : List PF} {n d : List UInt8} (h : (flFault l).1 = 0) : putF l n d = flFault (fputL l n d) := by unfold putF; rw [if_neg (by simp [h])]
theorem FOk.put {l : List PF} {n d : List UInt8} (h : FOk l) (hn : n.length ≤ maxLen) (hd : d.length ≤ maxLen) : FOk (fputL l n d) := by
  intro f hf
  rcases mem_fputL l n d f hf with rfl | hf
  · exact ⟨hn, hd⟩
  · exact h f hf
set_option maxRecDepth 100000 in
set_option maxHeartbeats 6400000 in
theorem flput_bad (E : Nat → Addr) (l : List PF) (v : Value) (n d : List UInt8) (w : World) (hl : SliceIs w v 2 (fcells l)) (hd : FOk l) (hlen : l.length ≤ 1000000) (hB : Has E w 2) (hN : Has E w 5) (hF : Has E w 8) (hO : Has E w 9) (hf : (flFault l).1 ≠ 0) :
    Calls Tryz.prog 127 #[v, .string (bs n), .string (bs d)] w fun e w' => ∃ r, e = .returned (.tuple #[.slice none 0 0, r]) ∧ FErr E w' r (flFault l).1 (flFault l).2 ∧ Below w.heap.size w w' := by
  have CK := Lib.hid (flcheck_any E l v w hl hd (by omega) hB hN hF hO)
  have HF := Lib.hid hf
  clear hl hB hN hF hO hf
  go_enter Tryz.func127, Tryz.ntmps127
  go_wp2_with fail
  refine CK.out.mono ?_
  rintro e w1 ⟨r, rfl, fe, b1⟩
  have FE := Lib.hid fe
  obtain ⟨t, p, rfl⟩ := fe.some HF.out
  have HB := Lib.hid b1
  clear fe b1 CK
  go_wp2_with fail
  go_ret2
  exact ⟨_, rfl, FE.out, HB.out⟩
set_option maxRecDepth 100000 in
set_option maxHeartbeats 6400000 in
theorem flput_there (E : Nat → Addr) (l : List PF) (v : Value) (n d : List UInt8) (w : World) (hl : SliceIs w v 2 (fcells l)) (hd : FOk l) (hdd : d.length ≤ maxLen) (hnn : n.length ≤ maxLen) (hB : Has E w 2) (hN : Has E w 5) (hF : Has E w 8) (hO : Has E w 9) (hf : FWF l) (hg : (fgetL l n).isSome = true) :
    Calls Tryz.prog 127 #[v, .string (bs n), .string (bs d)] w fun e w' => ∃ r er, e = .returned (.tuple #[r, er]) ∧ FErr E w' er (flFault (fputL l n d)).1 (flFault (fputL l n d)).2 ∧ ((flFault (fputL l n d)).1 = 0 → w'.ownsRow w.heap.size 49 2 r (fputL l n d).length (fcells (fputL l n d))) ∧ ((flFault (fputL l n d)).1 ≠ 0 → r = .slice none 0 0) ∧ Below w.heap.size w w' := by
  have hfew := hf.few
  have CK := Lib.hid (flcheck_any E l v w hl hd (by omega) hB hN hF hO)
  have HF0 := Lib.hid ((flFault_wf l).2 hf)
  have HL := Lib.hid hl
  have HS := Lib.hid hf.sorted
  obtain ⟨d0, hgd⟩ := Option.isSome_iff_exists.1 hg
  obtain ⟨hp, hpn⟩ := place_there hf.sorted hgd
  have PUT := Lib.hid (fputL_there (d := d) hf.sorted hp hpn)
  have SET := Lib.hid (fcells_setd hp n d hpn)
  have HFD := Lib.hid (FOk.put hd hnn hdd)
  have H2 := Lib.hid hB
  have H5 := Lib.hid hN
  have H8 := Lib.hid hF
  have H9 := Lib.hid hO
  have HPL := Lib.hid (show (fputL l n d).length = l.length by rw [PUT.out, List.length_set])
  have HP := Lib.hid hp
  have HG := Lib.hid hg
  generalize hq : placeL l n = p at *
  have HQ := Lib.hid hq
  clear hl hB hN hF hO hf hgd hpn hq hg
  go_enter Tryz.func127, Tryz.ntmps127
  go_wp2_with fail
  refine CK.out.mono ?_
  rintro e w1 ⟨r, rfl, fe, b1⟩
  rw [HF0.out] at fe
  obtain rfl := fe.zero
  have B1 := Lib.hid b1
  clear fe b1 CK
  go_wp2_with fail
  refine (flclone_any l v _ (HL.out.below B1.out) (by omega)).mono ?_
  rintro e w2 ⟨r, rfl, o2, b2⟩
  have O2 := Lib.hid o2
  have B2 := Lib.hid b2
  obtain ⟨va, vc, rfl⟩ := owns_slice o2
  have hva : ∃ g, va = some ⟨g, 0, none⟩ := by
    rcases o2.2 with ⟨h, h'⟩ | ⟨g, _, _, h, _⟩
    · omega
    · cases h; exact ⟨g, rfl⟩
  obtain ⟨g, rfl⟩ := hva
  clear o2 b2
  go_wp2_with fail
  refine (ffind_any l _ n w2 (SliceIs.ownedK O2.out) HS.out (by omega)).mono ?_
  rintro e w3 ⟨rfl, b3⟩
  rw [HQ.out, HG.out]
  have B3 := Lib.hid b3
  have o3 := owns_below O2.out b3
  have O3 := Lib.hid o3
  have HST := Lib.hid ((show w3.ownsRow w1.heap.size 49 2 (.slice (some ⟨g, 0, none⟩) l.length vc) l.length (fcells l) from o3).stored (p * 2 + 1) (.string (bs d)))
  obtain ⟨c0, c1⟩ := fcells_get l p HP.out
  have d0 := o3.cells (g := g) rfl _ _ c0
  have d1 := o3.cells (g := g) rfl _ _ c1
  rw [Addr.add_lit] at d0 d1
  rw [Nat.zero_add] at d0 d1
  have fr : ∀ k, w3.frozen? ⟨g, k, none⟩ = false := by
    rcases o3.2 with ⟨h, _⟩ | ⟨g', _, cur, h, _, hh, _⟩
    · cases h
    · cases h; intro k; simp [World.frozen?, hh]
  have y1 : (0 : Int) ≤ p := by omega
  have y2 : (p : Int).toNat = p := by omega
  have y3 : (p : Int) < l.length := by omega
  clear b3 o3 c0 c1
  go_wp2_with fail
  have B4 := Lib.hid (show Below w.heap.size w (w3.setCell ⟨g, p * 2 + 1, none⟩ (.string (bs d))) from (below_trans' (below_trans' B1.out B2.out) B3.out).setCell (by have h1 := (O2.out.lt g rfl).1; have h2 := B1.out.size; exact Nat.le_trans h2 h1) _)
  have o4 := HST.out.1
  rw [SET.out, ← PUT.out] at o4
  clear HST d0 d1 fr
  generalize w3.setCell ⟨g, p * 2 + 1, none⟩ (.string (bs d)) = W4 at *
  rw [← HPL.out] at o4 ⊢
  have O4 := Lib.hid o4
  have CK2 := Lib.hid (flcheck_any E (fputL l n d) _ W4 (SliceIs.ownedK o4) HFD.out (by have := HPL.out; omega) (H2.out.below B4.out) (H5.out.below B4.out) (H8.out.below B4.out) (H9.out.below B4.out))
  clear o4
  refine CK2.out.mono ?_
  rintro e w5 ⟨r, rfl, fe, b5⟩
  have FE := Lib.hid fe
  have HB := Lib.hid (below_trans' B4.out b5)
  have OF := Lib.hid (owns_mono' (owns_below O4.out b5) B1.out.size)
  by_cases hz : (flFault (fputL l n d)).1 = 0
  · have hr : r = .nilIface := by rw [hz] at fe; exact fe.zero
    subst hr
    have HZ := Lib.hid hz
    clear fe b5 CK2 hz
    go_wp2_with fail
    go_ret2
    exact ⟨_, _, rfl, FE.out, fun _ => OF.out, fun h => absurd HZ.out h, HB.out⟩
  · obtain ⟨t, q, rfl⟩ := fe.some hz
    have HZ := Lib.hid hz
    clear fe b5 CK2 hz
    go_wp2_with fail
    go_ret2
    exact ⟨_, _, rfl, FE.out, fun h => absurd h HZ.out, fun _ => rfl, HB.out⟩
set_option maxRecDepth 100000 in
set_option maxHeartbeats 6400000 in
theorem flput_new (E : Nat → Addr) (l : List PF) (v : Value) (n d : List UInt8) (w : World) (hl : SliceIs w v 2 (fcells l)) (hd : FOk l) (hdd : d.length ≤ maxLen) (hnn : n.length ≤ maxLen) (hB : Has E w 2) (hN : Has E w 5) (hF : Has E w 8) (hO : Has E w 9) (hf : FWF l) (hg : fgetL l n = none) :
    Calls Tryz.prog 127 #[v, .string (bs n), .string (bs d)] w fun e w' => ∃ r er, e = .returned (.tuple #[r, er]) ∧ FErr E w' er (flFault (fputL l n d)).1 (flFault (fputL l n d)).2 ∧ ((flFault (fputL l n d)).1 = 0 → w'.ownsRow w.heap.size 49 2 r (fputL l n d).length (fcells (fputL l n d))) ∧ ((flFault (fputL l n d)).1 ≠ 0 → r = .slice none 0 0) ∧ Below w.heap.size w w' := by
  have hfew := hf.few
  have CK := Lib.hid (flcheck_any E l v w hl hd (by omega) hB hN hF hO)
  have HF0 := Lib.hid ((flFault_wf l).2 hf)
  have HL := Lib.hid hl
  have HS := Lib.hid hf.sorted
  have PUT := Lib.hid (fputL_new (n := n) (d := d) hf.sorted (fun hp => fgetL_none hg _ (List.getElem_mem hp)))
  have HFD := Lib.hid (FOk.put hd hnn hdd)
  have H2 := Lib.hid hB
  have H5 := Lib.hid hN
  have H8 := Lib.hid hF
  have H9 := Lib.hid hO
  have PL' := Lib.hid (place_le l n)
  have HPL := Lib.hid (show (fputL l n d).length = l.length + 1 by have := PL'.out; rw [PUT.out]; simp; omega)
  have HG := Lib.hid (show (fgetL l n).isSome = false by rw [hg]; rfl)
  generalize hq : placeL l n = p at *
  have HQ := Lib.hid hq
  clear hl hB hN hF hO hf hq hg
  go_enter Tryz.func127, Tryz.ntmps127
  go_wp2_with fail
  refine CK.out.mono ?_
  rintro e w1 ⟨r, rfl, fe, b1⟩
  rw [HF0.out] at fe
  obtain rfl := fe.zero
  have B1 := Lib.hid b1
  clear fe b1 CK
  go_wp2_with fail
  refine (flclone_any l v _ (HL.out.below B1.out) (by omega)).mono ?_
  rintro e w2 ⟨r, rfl, o2, b2⟩
  have O2 := Lib.hid o2
  have B2 := Lib.hid b2
  obtain ⟨va, vc, rfl⟩ := owns_slice o2
  clear o2 b2
  go_wp2_with fail
  refine (ffind_any l _ n w2 (SliceIs.ownedK O2.out) HS.out (by omega)).mono ?_
  rintro e w3 ⟨rfl, b3⟩
  rw [HQ.out, HG.out]
  have B3 := Lib.hid (below_trans' (below_trans' B1.out B2.out) b3)
  have O3 := Lib.hid (owns_below O2.out b3)
  have S13 := Lib.hid (show w1.heap.size ≤ w3.heap.size from Nat.le_trans B2.out.size b3.size)
  clear b3
  go_wp2_with fail
  have O3a := Lib.hid (O3.out.alloc (.cells #[.string (bs n), .string (bs d)] 49))
  have INS := Lib.hid (insert_any l ⟨n, d⟩ p w1.heap.size w3.heap.size _ _ O3a.out (heap_alloc_new _ _) (fun h => by have := (O3.out.lt w3.heap.size h).2; omega) PL'.out (by have := S13.out; simp; omega) (by omega))
  have B3a := Lib.hid (B3.out.alloc B3.out.size (.cells #[.string (bs n), .string (bs d)] 49))
  refine INS.out.mono ?_
  rintro e W4 ⟨r, rfl, o4, c4⟩
  rw [← PUT.out, ← HPL.out] at o4
  have B4 := Lib.hid (c4.below B3a.out (fun x hx => by have := (O2.out.lt x hx).1; have := B1.out.size; omega))
  have O4 := Lib.hid o4
  obtain ⟨ra, rc, rfl⟩ := owns_slice o4
  have CK2 := Lib.hid (flcheck_any E (fputL l n d) _ W4 (SliceIs.ownedK o4) HFD.out (by have := HPL.out; omega) (H2.out.below B4.out) (H5.out.below B4.out) (H8.out.below B4.out) (H9.out.below B4.out))
  clear o4 c4 INS
  go_wp2_with fail
  refine CK2.out.mono ?_
  rintro e w5 ⟨r, rfl, fe, b5⟩
  have FE := Lib.hid fe
  have HB := Lib.hid (below_trans' B4.out b5)
  have OF := Lib.hid (owns_mono' (owns_below O4.out b5) B1.out.size)
  by_cases hz : (flFault (fputL l n d)).1 = 0
  · have hr : r = .nilIface := by rw [hz] at fe; exact fe.zero
    subst hr
    have HZ := Lib.hid hz
    clear fe b5 CK2 hz
    go_wp2_with fail
    go_ret2
    exact ⟨_, _, rfl, FE.out, fun _ => OF.out, fun h => absurd HZ.out h, HB.out⟩
  · obtain ⟨t, q, rfl⟩ := fe.some hz
    have HZ := Lib.hid hz
    clear fe b5 CK2 hz
    go_wp2_with fail
    go_ret2
    exact ⟨_, _, rfl, FE.out, fun h => absurd h HZ.out, fun _ => rfl, HB.out⟩
end Go.Proofs.YtdpoalbbcmkceaaGreatDoor
/- The document's GetOf; a statement's LongFiles. -/
namespace Go.Proofs.YtdpoalbbcmkceaaGreatDoor
open Go.RowKit
set_option linter.unusedVariables false

set_option maxRecDepth 100000 in
set_option maxHeartbeats 3200000 in
theorem getOf_any (l : List PF) (v : Value) (n : List UInt8) (w : World) (hl : SliceIs w v 2 (fcells l)) :
    Calls Tryz.prog 30 #[v, .string (bs n)] w fun e w' => e = .returned (.tuple #[.string (bs ((fgetL l n).getD [])), .bool (fgetL l n).isSome]) ∧ Below w.heap.size w w' := by
  obtain ⟨s, m, c, rfl, hn, h1, h2, hg⟩ := hl.get
  rw [fcells_len] at hn
  obtain rfl : m = l.length := by omega
  unfold maxLen at h2
  have HSL := Lib.hid hl
  have HS := Lib.hid (fget_start l n)
  generalize fgetL l n = r at *
  clear hl hg
  go_enter Tryz.func30, Tryz.ntmps30
  go_wp2_with fail
  go_loopw [6] (fun i wr => ∃ k : Nat, i = .int .i64 k ∧ k ≤ l.length ∧ r = fgetL (l.drop k) n ∧ Below w.heap.size w wr) (fun i _ => l.length - (intOf i).toNat)
  case atStart => exact ⟨0, rfl, by omega, HS.out, Below.refl _ _⟩
  case round =>
    obtain ⟨k, rfl, hk, hr, bel⟩ := hrel
    have HR := Lib.hid hr
    clear hr
    by_cases hlt : k < l.length
    · have hltI : (k : Int) < l.length := by omega
      obtain ⟨s0', n0', c0', e1, _, _, _, g1⟩ := (HSL.out.below bel).get
      cases e1
      obtain ⟨g2, g3⟩ := fcells_get l k hlt
      obtain ⟨ad, rfl, d0⟩ := g1 _ _ g2
      obtain ⟨a', e', d1⟩ := g1 _ _ g3
      cases e'
      clear g1 g2 g3
      have YES := Lib.hid (fun h => HR.out.trans (fget_yes (n := n) hlt h))
      have NO := Lib.hid (fun h => HR.out.trans (fget_no (n := n) hlt h))
      have KK := Lib.hid (show k + 1 ≤ l.length by omega)
      have x1 : (0 : Int) ≤ k := by omega
      have x2 : (k : Int).toNat = k := by omega
      generalize l[k] = x at d0 d1 YES NO
      have d1 := cell_at d1
      by_cases hx : x.n = n
      · have hb : ((bs x.n).toList == (bs n).toList) = true := by rw [bs_tl', bs_tl']; simpa using hx
        have Y := Lib.hid (YES.out hx)
        clear YES NO hx
        go_wp2_with fail
        go_ret2
        exact ⟨by rw [Y.out]; rfl, bel⟩
      · have hb : ((bs x.n).toList == (bs n).toList) = false := by rw [bs_tl', bs_tl']; simpa using hx
        have Y := Lib.hid (NO.out hx)
        clear YES NO hx
        go_wp2_with fail
        go_roundw
        case rel => exact ⟨k + 1, by go_num, KK.out, Y.out, bel⟩
        case measure => simp [intOf]; omega
    · have hltI : ¬ (k : Int) < l.length := by omega
      have Y := Lib.hid (HR.out.trans (fget_end (n := n) (show l.length ≤ k by omega)))
      clear HR
      go_wp2_with fail
      go_ret2
      exact ⟨by rw [Y.out]; show _ = Ending.returned (.tuple #[.string (bs []), .bool false]); rw [bs_nil]; rfl, bel⟩
def longF (most : Nat) (f : PF) : Bool := decide (30 < f.n.length) || (decide (most < f.d.length) && f.d.length != 4001)
def longFB (l : List PF) (most : Nat) : Bool := decide (25 < l.length) || l.any (longF most)
def longN (l : List PF) (most : Nat) : Int := if longFB l most then 1 else 0
theorem longN_t {l : List PF} {most : Nat} (h : longFB l most = true) : longN l most = 1 := by unfold longN; rw [h]; rfl
theorem longN_f {l : List PF} {most : Nat} (h : longFB l most = false) : longN l most = 0 := by unfold longN; rw [h]; rfl
set_option maxRecDepth 100000 in
set_option maxHeartbeats 3200000 in
theorem longFiles_any (l : List PF) (v : Value) (most : Nat) (w : World) (hl : SliceIs w v 2 (fcells l)) (hm : most ≤ 4000) (hd : FOk l) :
    Calls Tryz.prog 6 #[v, .int .i64 most] w fun e w' => e = .returned (.int .i64 (longN l most)) ∧ Below w.heap.size w w' := by
  obtain ⟨s, m, c, rfl, hn, h1, h2, hg⟩ := hl.get
  rw [fcells_len] at hn
  obtain rfl : m = l.length := by omega
  unfold maxLen at h2
  have HSL := Lib.hid hl
  have HD := Lib.hid hd
  clear hl hg hd
  by_cases h25 : 25 < l.length
  · have hI : (25 : Int) < l.length := by omega
    have HB := Lib.hid (show longFB l most = true by unfold longFB; simp [h25])
    go_enter Tryz.func6, Tryz.ntmps6
    go_wp2_with fail
    go_ret
    exact ⟨by rw [longN_t HB.out]; rfl, Below.refl _ _⟩
  have hI : ¬ (25 : Int) < l.length := by omega
  have HB := Lib.hid (show longFB l most = l.any (longF most) by unfold longFB; simp [h25])
  go_enter Tryz.func6, Tryz.ntmps6
  go_wp2_with fail
  go_loopw [5] (fun i wr => ∃ k : Nat, i = .int .i64 k ∧ k ≤ l.length ∧ longFB l most = (l.drop k).any (longF most) ∧ Below w.heap.size w wr) (fun i _ => l.length - (intOf i).toNat)
  case atStart => exact ⟨0, rfl, by omega, HB.out, Below.refl _ _⟩
  case round =>
    obtain ⟨k, rfl, hk, hr, bel⟩ := hrel
    have HR := Lib.hid hr
    clear hr
    by_cases hlt : k < l.length
    · have hltI : (k : Int) < l.length := by omega
      obtain ⟨s0', n0', c0', e1, _, _, _, g1⟩ := (HSL.out.below bel).get
      cases e1
      obtain ⟨g2, g3⟩ := fcells_get l k hlt
      obtain ⟨ad, rfl, d0⟩ := g1 _ _ g2
      obtain ⟨a', e', d1⟩ := g1 _ _ g3
      cases e'
      clear g1 g2 g3
      have NX := Lib.hid (show longFB l most = (longF most l[k] || (l.drop (k + 1)).any (longF most)) by rw [HR.out, List.drop_eq_getElem_cons hlt, List.any_cons])
      have KK := Lib.hid (show k + 1 ≤ l.length by omega)
      have x1 : (0 : Int) ≤ k := by omega
      have x2 : (k : Int).toNat = k := by omega
      obtain ⟨z1, z2⟩ := HD.out l[k] (List.getElem_mem _)
      unfold maxLen at z1 z2
      generalize l[k] = x at d0 d1 NX z1 z2
      have d1 := cell_at d1
      have hs1 : (bs x.n).size = x.n.length := bs_size _
      have hs2 : (bs x.d).size = x.d.length := bs_size _
      by_cases q1 : 30 < x.n.length
      · have q1I : (30 : Int) < x.n.length := by omega
        have Y := Lib.hid (show longFB l most = true by rw [NX.out]; unfold longF; simp [q1])
        go_wp2_with fail
        go_ret
        exact ⟨by first | (rw [longN_t Y.out]; rfl) | (rw [longN_f Y.out]; rfl), bel⟩
      have q1I : ¬ (30 : Int) < x.n.length := by omega
      by_cases q2 : most < x.d.length
      · have q2I : (most : Int) < x.d.length := by omega
        by_cases q3 : x.d.length = 4001
        · have q3I : ((x.d.length : Int) == 4001) = true := by simp; omega
          have q3J : (x.d.length : Int) = 4001 := by omega
          have Y := Lib.hid (show longFB l most = (l.drop (k + 1)).any (longF most) by rw [NX.out]; unfold longF; simp [q1, q3])
          go_wp2_with fail
          go_roundw
          case rel => exact ⟨k + 1, by go_num, KK.out, Y.out, bel⟩
          case measure => simp [intOf]; omega
        · have q3I : ((x.d.length : Int) == 4001) = false := by simp; omega
          have q3J : ¬ (x.d.length : Int) = 4001 := by omega
          have Y := Lib.hid (show longFB l most = true by rw [NX.out]; unfold longF; simp [q2, q3])
          go_wp2_with fail
          go_ret
          exact ⟨by first | (rw [longN_t Y.out]; rfl) | (rw [longN_f Y.out]; rfl), bel⟩
      · have q2I : ¬ (most : Int) < x.d.length := by omega
        have Y := Lib.hid (show longFB l most = (l.drop (k + 1)).any (longF most) by rw [NX.out]; unfold longF; simp [q1, q2])
        go_wp2_with fail
        go_roundw
        case rel => exact ⟨k + 1, by go_num, KK.out, Y.out, bel⟩
        case measure => simp [intOf]; omega
    · have hltI : ¬ (k : Int) < l.length := by omega
      have Y := Lib.hid (show longFB l most = false by rw [HR.out, List.drop_of_length_le (by omega)]; rfl)
      go_wp2_with fail
      go_ret
      exact ⟨by first | (rw [longN_t Y.out]; rfl) | (rw [longN_f Y.out]; rfl), bel⟩
end Go.Proofs.YtdpoalbbcmkceaaGreatDoor
/- The document's SameFiles and GetOf. -/
namespace Go.Proofs.YtdpoalbbcmkceaaGreatDoor
open Go.RowKit
set_option linter.unusedVariables false

end Go.Proofs.YtdpoalbbcmkceaaGreatDoor
/- Contracts of a statement's OwnFiles and LongFiles, by a law of another package. -/
namespace Go.Proofs.YtdpoalbbcmkceaaGreatDoor
open Go.RowKit
set_option linter.unusedVariables false
set_option maxRecDepth 100000 in
set_option maxHeartbeats 1600000 in
theorem ownFl_any (l : List PF) (v : Value) (w : World) (hl : SliceIs w v 2 (fcells l)) (hlen : l.length ≤ 1000000) :
    Calls Tryz.prog 8 #[v] w fun e w' => ∃ r, e = .returned r ∧ w'.ownsRow w.heap.size 49 2 r l.length (fcells l) ∧ Below w.heap.size w w' := by
  obtain ⟨i0, hi, hz0, hz1, hz2⟩ := info_parts infoFile
  have HL := Lib.hid hl
  obtain ⟨s, n, c, rfl, _⟩ := hl.get
  have HN1 : Hid (0 + l.length ≤ maxLen) := by show _ ≤ _; unfold maxLen; omega
  have HN2 : Hid ((0 + l.length) * 32 ≤ 140737488355328) := by show _ ≤ _; omega
  have LEN := Lib.hid (fcells_len l)
  clear hl
  go_enter Tryz.func8, Tryz.ntmps8
  go_wp2_with (at_builtin; refine wpList_append_is rfl _ _ 22 rfl w.heap.size 49 i0 _ 2 32 Tryz.underlying22 hi hz0 hz1 hz2 rfl (by decide) _ 0 [] rfl (World.ownsRow_nil _ _ _ _) _ l.length _ rfl HL.out LEN.out (fcells_cell l) HN1.out HN2.out (Nat.le_refl _) ?_; intro v' w5 hown hgrow _; have HO := Lib.hid (own_first hown); have HB := Lib.hid (below_first hgrow); clear hown hgrow)
  go_ret
  exact ⟨_, rfl, HO.out, HB.out⟩
set_option maxRecDepth 100000 in
set_option maxHeartbeats 3200000 in
theorem longFl_any (l : List PF) (v : Value) (most : Nat) (w : World) (hl : SliceIs w v 2 (fcells l)) (hm : most ≤ 4000) (hd : FOk l) :
    Calls Tryz.prog 6 #[v, .int .i64 most] w fun e w' => e = .returned (.int .i64 (longN l most)) ∧ Below w.heap.size w w' := by
  obtain ⟨s, m, c, rfl, hn, h1, h2, hg⟩ := hl.get
  rw [fcells_len] at hn
  obtain rfl : m = l.length := by omega
  unfold maxLen at h2
  have HSL := Lib.hid hl
  have HD := Lib.hid hd
  clear hl hg hd
  by_cases h25 : 25 < l.length
  · have hI : (25 : Int) < l.length := by omega
    have HB := Lib.hid (show longFB l most = true by unfold longFB; simp [h25])
    go_enter Tryz.func6, Tryz.ntmps6
    go_wp2_with fail
    go_ret
    exact ⟨by rw [longN_t HB.out]; rfl, Below.refl _ _⟩
  have hI : ¬ (25 : Int) < l.length := by omega
  have HB := Lib.hid (show longFB l most = l.any (longF most) by unfold longFB; simp [h25])
  go_enter Tryz.func6, Tryz.ntmps6
  go_wp2_with fail
  go_loopw [5] (fun i wr => ∃ k : Nat, i = .int .i64 k ∧ k ≤ l.length ∧ longFB l most = (l.drop k).any (longF most) ∧ Below w.heap.size w wr) (fun i _ => l.length - (intOf i).toNat)
  case atStart => exact ⟨0, rfl, by omega, HB.out, Below.refl _ _⟩
  case round =>
    obtain ⟨k, rfl, hk, hr, bel⟩ := hrel
    have HR := Lib.hid hr
    clear hr
    by_cases hlt : k < l.length
    · have hltI : (k : Int) < l.length := by omega
      obtain ⟨s0', n0', c0', e1, _, _, _, g1⟩ := (HSL.out.below bel).get
      cases e1
      obtain ⟨g2, g3⟩ := fcells_get l k hlt
      obtain ⟨ad, rfl, d0⟩ := g1 _ _ g2
      obtain ⟨a', e', d1⟩ := g1 _ _ g3
      cases e'
      clear g1 g2 g3
      have NX := Lib.hid (show longFB l most = (longF most l[k] || (l.drop (k + 1)).any (longF most)) by rw [HR.out, List.drop_eq_getElem_cons hlt, List.any_cons])
      have KK := Lib.hid (show k + 1 ≤ l.length by omega)
      have x1 : (0 : Int) ≤ k := by omega
      have x2 : (k : Int).toNat = k := by omega
      obtain ⟨z1, z2⟩ := HD.out l[k] (List.getElem_mem _)
      unfold maxLen at z1 z2
      generalize l[k] = x at d0 d1 NX z1 z2
      have d1 := cell_at d1
      have hs1 : (bs x.n).size = x.n.length := bs_size _
      have hs2 : (bs x.d).size = x.d.length := bs_size _
      by_cases q1 : 30 < x.n.length
      · have q1I : (30 : Int) < x.n.length := by omega
        have Y := Lib.hid (show longFB l most = true by rw [NX.out]; unfold longF; simp [q1])
        go_wp2_with fail
        go_ret
        exact ⟨by first | (rw [longN_t Y.out]; rfl) | (rw [longN_f Y.out]; rfl), bel⟩
      have q1I : ¬ (30 : Int) < x.n.length := by omega
      by_cases q2 : most < x.d.length
      · have q2I : (most : Int) < x.d.length := by omega
        by_cases q3 : x.d.length = 4001
        · have q3I : ((x.d.length : Int) == 4001) = true := by simp; omega
          have q3J : (x.d.length : Int) = 4001 := by omega
          have Y := Lib.hid (show longFB l most = (l.drop (k + 1)).any (longF most) by rw [NX.out]; unfold longF; simp [q1, q3])
          go_wp2_with fail
          go_roundw
          case rel => exact ⟨k + 1, by go_num, KK.out, Y.out, bel⟩
          case measure => simp [intOf]; omega
        · have q3I : ((x.d.length : Int) == 4001) = false := by simp; omega
          have q3J : ¬ (x.d.length : Int) = 4001 := by omega
          have Y := Lib.hid (show longFB l most = true by rw [NX.out]; unfold longF; simp [q2, q3])
          go_wp2_with fail
          go_ret
          exact ⟨by first | (rw [longN_t Y.out]; rfl) | (rw [longN_f Y.out]; rfl), bel⟩
      · have q2I : ¬ (most : Int) < x.d.length := by omega
        have Y := Lib.hid (show longFB l most = (l.drop (k + 1)).any (longF most) by rw [NX.out]; unfold longF; simp [q1, q2])
        go_wp2_with fail
        go_roundw
        case rel => exact ⟨k + 1, by go_num, KK.out, Y.out, bel⟩
        case measure => simp [intOf]; omega
    · have hltI : ¬ (k : Int) < l.length := by omega
      have Y := Lib.hid (show longFB l most = false by rw [HR.out, List.drop_of_length_le (by omega)]; rfl)
      go_wp2_with fail
      go_ret
      exact ⟨by first | (rw [longN_t Y.out]; rfl) | (rw [longN_f Y.out]; rfl), bel⟩
theorem longFB_no' {l : List PF} {most : Nat} (h : longFB l most = false) : l.length ≤ 25 ∧ ∀ f ∈ l, f.n.length ≤ 30 ∧ (f.d.length ≤ most ∨ f.d.length = 4001) := by
  unfold longFB at h
  rw [Bool.or_eq_false_iff] at h
  obtain ⟨h1, h2⟩ := h
  rw [List.any_eq_false] at h2
  refine ⟨by simpa using h1, fun f hf => ?_⟩
  have := h2 f hf
  unfold longF at this
  simp at this
  omega
theorem longN_bd' (l : List PF) (most : Nat) : (longN l most = 0 ∧ longFB l most = false) ∨ (longN l most = 1 ∧ longFB l most = true) := by
  cases h : longFB l most with
  | true => exact .inr ⟨longN_t h, rfl⟩
  | false => exact .inl ⟨longN_f h, rfl⟩
end Go.Proofs.YtdpoalbbcmkceaaGreatDoor
