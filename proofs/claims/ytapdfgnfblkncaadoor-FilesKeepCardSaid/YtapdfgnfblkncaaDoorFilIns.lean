/- Contract of slices.Insert at files, one element. -/
import Derived.Test.YtapdfgnfblkncaaDoorFilFind
import Derived.Test.YtapdfgnfblkncaaDoorRowCopy
namespace Go.Proofs.YtapdfgnfblkncaaDoor
open Go.RowKit
set_option linter.unusedVariables false

theorem fcells_take (l : List PF) (k : Nat) : (fcells l).take (k * 2) = fcells (l.take k) := rowc_take _ _ l k
theorem fcells_drop (l : List PF) (k : Nat) : (fcells l).drop (k * 2) = fcells (l.drop k) := by
  induction l generalizing k with
  | nil => simp [fcells_nil]
  | cons o l ih =>
    match k with
    | 0 => simp
    | k + 1 =>
      rw [List.drop_succ_cons, ← ih k, show (k + 1) * 2 = k * 2 + 2 by omega]
      rfl
theorem chg_row {w w' : World} {v : Value} (h : w.grownBy w' v.ownBlock) : Chg w w' (RowOf v) := ⟨h.os, h.tape, h.output, h.size, fun k hk hn => h.block k hk (fun e => hn e.symm)⟩
theorem rowOf_any {va : Option Addr} {n c n' c' x : Nat} (h : RowOf (.slice va n c) x) : RowOf (.slice va n' c') x := by cases va <;> exact h
theorem sizeFile : (Tryd.prog.info? 75).map (·.size) = some 2 := by kernel_rfl
theorem two_newsF {w : World} {b : Nat} {u0 u1 : Value} {t : TypeId} (h : w.heap[b]? = some (.cells #[u0, u1] t (0, 0))) : ∀ j u', [u0, u1][j]? = some u' → w.cell? ((⟨b, 0, none⟩ : Addr).add j) = some u' := by
  intro j u' hj
  match j, hj with
  | 0, hj => simp at hj; subst hj; simp [World.cell?, h, Addr.add]
  | 1, hj => simp at hj; subst hj; simp [World.cell?, h, Addr.add]
theorem slice_one {w : World} {b : Nat} {f : PF} (h : w.heap[b]? = some (.cells #[.string (bs f.n), .string (bs f.d)] 75 (0, 0))) : SliceIs w (.slice (some ⟨b, 0, none⟩) 1 1) 2 (fcells [f]) :=
  .inr ⟨_, 1, 1, rfl, Nat.le_refl _, by unfold maxLen; omega, rfl, two_newsF h⟩
set_option maxRecDepth 100000 in
set_option maxHeartbeats 3200000 in
/-- at the end -/
theorem ins_end (l : List PF) (f : PF) (base vb : Nat) (v : Value) (w : World) (hown : w.ownsRow base 75 2 v l.length (fcells l)) (hvb : w.heap[vb]? = some (.cells #[.string (bs f.n), .string (bs f.d)] 75 (0, 0))) (hbase : base ≤ w.heap.size) (hlen : l.length ≤ 1000000) :
    Calls Tryd.prog 64 #[v, .int .i64 l.length, .slice (some ⟨vb, 0, none⟩) 1 1] w fun e w' => ∃ r, e = .returned r ∧ w'.ownsRow base 75 2 r (l.length + 1) (fcells (l ++ [f])) ∧ Chg w w' (RowOf v) := by
  obtain ⟨i0, hi, hz0, hz1, hz2⟩ := info_parts infoFile
  have HO := Lib.hid hown
  have HV := Lib.hid (slice_one hvb)
  obtain ⟨va, vc, rfl⟩ := owns_slice hown
  have HN1 : Hid (l.length + 1 ≤ maxLen) := by show _ ≤ _; unfold maxLen; omega
  have HN2 : Hid ((l.length + 1) * 32 ≤ 140737488355328) := by show _ ≤ _; omega
  have LEN := Lib.hid (fcells_len [f])
  have hcap : l.length ≤ vc ∧ vc ≤ maxLen := by
    obtain ⟨s, n, c, e, _, h1, h2, _⟩ := (SliceIs.ownedK hown).get
    cases e; exact ⟨h1, h2⟩
  obtain ⟨hc1, hc2⟩ := hcap
  unfold maxLen at hc2
  have y0 : (0 : Int) ≤ l.length := by omega
  have y1 : (l.length : Int).toNat = l.length := by omega
  have y2 : (l.length : Int) ≤ l.length := by omega
  clear hown hvb
  go_enter Tryd.func64, Tryd.ntmps64
  go_wp2_with (at_builtin; refine wpList_append_is rfl (.tmp 23) (.tmp 24) 59 rfl base 75 i0 _ 2 32 Tryd.underlying59 hi hz0 hz1 hz2 rfl (by decide) _ l.length _ rfl HO.out _ 1 _ rfl HV.out LEN.out (fcells_cell [f]) HN1.out HN2.out hbase ?_; intro v' w5 hown5 hgrow _; have HO5 := Lib.hid hown5; have HG5 := Lib.hid (chg_row hgrow); clear hown5 hgrow)
  all_goals
    go_ret
    exact ⟨_, rfl, by rw [fcells_append]; exact HO5.out, (show Chg w w5 (RowOf (.slice va l.length vc)) from HG5.out).more (fun x _ h => rowOf_any h)⟩

theorem shape_cells {w : World} {b : Nat} {cs : Array Value} {t : TypeId} {fr : Nat × Nat} (h : w.heap[b]? = some (.cells cs t fr)) : w.shape? b = some (t, cs.size) := by simp [World.shape?, h]
set_option maxRecDepth 100000 in
theorem overl_any (vb g o la ca lb cb : Nat) (w : World) (hne : vb ≠ g) {cv cg : Array Value} {tv tg : TypeId} (hv : w.heap[vb]? = some (.cells cv tv (0, 0))) (hg : w.heap[g]? = some (.cells cg tg (0, 0))) (hgs : cg.size ≠ 0) :
    (callFunc 88 #[.slice (some ⟨vb, 0, none⟩) la ca, .slice (some ⟨g, o, none⟩) lb cb]).run Tryd.prog w = .ok (.value (.bool false)) w := by
  rw [run_callFunc_extern Tryd.func88 (by kernel_rfl) (by kernel_rfl) (by kernel_rfl) (e := Extern.SlicesOverlaps.overlaps #[59, 59] #[4]) (by kernel_rfl),
    Lib.run_overlaps_apart w 59 4 75 Tryd.underlying59 2 Tryd.sizeOf75 ⟨vb, 0, none⟩ ⟨g, o, none⟩ la ca lb cb hne tv tg cv.size cg.size (shape_cells hv) (shape_cells hg) hgs (by simp [World.frozen?, hv]) (by simp [World.frozen?, hv])]
  rfl
theorem ins_cells (l : List PF) (ys : List Value) {i : Nat} (hi : i < l.length) (hys : ys.length = (l.length + 1 - l.length) * 2) {c : List Value} :
    ((fcells l ++ ys).take ((i + 1) * 2) ++ fcells (l.drop i) ++ (fcells l ++ ys).drop ((i + 1 + (l.length - i)) * 2)).take (i * 2) ++ c ++ ((fcells l ++ ys).take ((i + 1) * 2) ++ fcells (l.drop i) ++ (fcells l ++ ys).drop ((i + 1 + (l.length - i)) * 2)).drop ((i + 1) * 2) = fcells (l.take i) ++ (c ++ fcells (l.drop i)) := by
  have h1 : (fcells l ++ ys).drop ((i + 1 + (l.length - i)) * 2) = [] := List.drop_of_length_le (by rw [List.length_append, fcells_len, hys]; omega)
  have h2 : (fcells l ++ ys).take ((i + 1) * 2) = fcells (l.take (i + 1)) := by rw [List.take_append_of_le_length (by rw [fcells_len]; omega), fcells_take]
  have h3 : (fcells (l.take (i + 1))).length = (i + 1) * 2 := by rw [fcells_len, List.length_take]; omega
  rw [h1, h2, List.append_nil, List.take_append_of_le_length (by rw [h3]; omega), fcells_take, List.take_take, Nat.min_eq_left (by omega), List.drop_append_of_le_length (by rw [h3]; exact Nat.le_refl _), List.drop_of_length_le (by rw [h3]; exact Nat.le_refl _), List.nil_append, List.append_assoc]
set_option maxRecDepth 100000 in
set_option maxHeartbeats 6400000 in
/-- ahead of the end, with room -/
theorem ins_room (l : List PF) (f : PF) (i base vb g cap : Nat) (w : World) (hown : w.ownsRow base 75 2 (.slice (some ⟨g, 0, none⟩) l.length cap) l.length (fcells l)) (hvb : w.heap[vb]? = some (.cells #[.string (bs f.n), .string (bs f.d)] 75 (0, 0))) (hne : vb ≠ g) (hi : i < l.length) (hroom : l.length + 1 ≤ cap) (hlen : l.length ≤ 1000000) :
    Calls Tryd.prog 64 #[.slice (some ⟨g, 0, none⟩) l.length cap, .int .i64 i, .slice (some ⟨vb, 0, none⟩) 1 1] w fun e w' => ∃ r, e = .returned r ∧ w'.ownsRow base 75 2 r (l.length + 1) (fcells (l.take i ++ f :: l.drop i)) ∧ Chg w w' (RowOf (.slice (some ⟨g, 0, none⟩) l.length cap)) := by
  obtain ⟨ys, hys, HX⟩ := own_extend hown (k := l.length + 1) (by omega) hroom
  have hd := HX.drew
  have hcl : (fcells (l.drop i)).length = (l.length - i) * 2 := by rw [fcells_len, List.length_drop]
  obtain ⟨w1, hrun1, O1, G1⟩ := run_copy_own (dT := 59) (sT := 59) hd Tryd.underlying59 sizeFile (o := i + 1) (m := l.length - i) hcl (by omega) (fcells_cell _)
  obtain ⟨w2, hrun2, O2, G2⟩ := run_copy_own (dT := 59) (sT := 59) O1 Tryd.underlying59 sizeFile (o := i) (m := 1) (fcells_len [f]) (by omega) (fcells_cell [f])
  have hg0 : ∃ cur, w.heap[g]? = some (.cells cur 75 (0, 0)) ∧ cur.size ≠ 0 := by
    obtain ⟨_, h2⟩ := hown
    rcases h2 with ⟨h2, _⟩ | ⟨g', cap', cur, hv, _, hh, h3, _, h5, _⟩
    · cases h2
    · cases hv; exact ⟨cur, hh, by rw [h5]; omega⟩
  obtain ⟨cur, hg1, hg2⟩ := hg0
  have hov : ∀ o lb cb, (callFunc 88 #[.slice (some ⟨vb, 0, none⟩) 1 1, .slice (some ⟨g, o, none⟩) lb cb]).run Tryd.prog w = .ok (.value (.bool false)) w := fun o lb cb => overl_any vb g o 1 1 lb cb w hne hvb hg1 hg2
  have hcm : cap ≤ 9223372036854775807 := by
    obtain ⟨s, n, c, e, _, h1, h2, _⟩ := (SliceIs.ownedK hown).get
    cases e; unfold maxLen at h2; omega
  have hvw1 : w1.heap[vb]? = some (.cells #[.string (bs f.n), .string (bs f.d)] 75 (0, 0)) := (G1.block vb (lt_of_block (w := w) hvb) (fun e => by cases e; exact hne rfl)).trans hvb
  have hfin : fcells (l.take i ++ f :: l.drop i) = ((fcells l ++ ys).take ((i + 1) * 2) ++ fcells (l.drop i) ++ (fcells l ++ ys).drop ((i + 1 + (l.length - i)) * 2)).take (i * 2) ++ fcells [f] ++ ((fcells l ++ ys).take ((i + 1) * 2) ++ fcells (l.drop i) ++ (fcells l ++ ys).drop ((i + 1 + (l.length - i)) * 2)).drop ((i + 1) * 2) := by
    rw [ins_cells l ys hi hys]
    rw [fcells_append]
    rfl
  have HRUN1 := Lib.hid hrun1
  have HRUN2 := Lib.hid hrun2
  have HO2 := Lib.hid O2
  have HFIN := Lib.hid hfin
  have HG1 := Lib.hid G1
  have HG2 := Lib.hid G2
  have SRC1 : Hid (∀ j v, (fcells (l.drop i))[j]? = some v → w.drew.cell? ((⟨g, i * 2, none⟩ : Addr).add j) = some v) := Lib.hid (fun j v hj => by
    have h1 := (hd.cells (g := g) rfl) (i * 2 + j) v (by
      rw [List.getElem?_append_left (by rw [fcells_len]; have := (List.getElem?_eq_some_iff.1 hj).1; rw [hcl] at this; omega)]
      rw [← fcells_drop, List.getElem?_drop] at hj
      exact hj)
    rw [Addr.add_lit] at h1 ⊢
    rw [Nat.zero_add] at h1
    exact h1)
  have MIN1 := Lib.hid (show Nat.min (l.length + 1 - i) (l.length + 1 - (i + 1)) = l.length - i by simp only [Nat.min_def]; split <;> omega)
  have MIN2 := Lib.hid (show Nat.min 1 (l.length + 1 - i) = 1 by simp only [Nat.min_def]; split <;> omega)
  have SRC2 := Lib.hid (two_newsF hvw1)
  have y1 : (0 : Int) ≤ i := by omega
  have y2 : (i : Int).toNat = i := by omega
  have y3 : (i : Int) ≤ l.length := by omega
  have y4 : ¬ ((i : Int) = l.length) := by omega
  have y5 : ((i : Int) == l.length) = false := by simpa using y4
  have y6 : ¬ (cap : Int) < (l.length : Int) + 1 := by omega
  have y7 : (l.length : Int) + 1 ≤ cap := by omega
  have y8 : ((l.length : Int) + 1).toNat = l.length + 1 := by omega
  have y9 : ((i : Int) + 1).toNat = i + 1 := by omega
  have ya : (i : Int) + 1 ≤ (l.length : Int) + 1 := by omega
  have yb : ¬ cap = i := by omega
  have yf : (i : Int) ≤ (l.length : Int) + 1 := by omega
  have yd : IntKind.i64.wrap ((i : Int) + 1) = (i : Int) + 1 := IntWalk.i64_in _ (by omega)
  have ye : (0 : Int) ≤ (i : Int) + 1 := by omega
  have yc : ¬ cap = i + 1 := by omega
  clear hown hvb HX hd hrun1 hrun2 O1 O2 G1 G2 hfin hvw1 hg1 hg2 hys hcl
  go_enter Tryd.func64, Tryd.ntmps64
  go_wp2_with (simp only [hov])
  go_region_law (refine step_copy_run rfl (.tmp 73) (.tmp 76) 59 59 rfl _ _ (by simp [Act.eval, Act.put]) (by simp [Act.eval, Act.put]) (HRUN1.out _ (l.length + 1 - (i + 1)) (cap - (i + 1)) ⟨g, i * 2, none⟩ (l.length + 1 - i) (cap - i) MIN1.out SRC1.out) ?_)
  all_goals
    go_wp2_with (refine wpList_copy_run rfl (.tmp 80) (.tmp 81) 59 59 rfl _ _ rfl rfl (HRUN2.out _ (l.length + 1 - i) (cap - i) ⟨vb, 0, none⟩ 1 1 MIN2.out SRC2.out) ?_)
    go_ret
    refine ⟨_, rfl, ?_, ?_⟩
    · rw [HFIN.out]; exact HO2.out
    · exact ((Chg.refl w _).drew.trans (Chg.of_grown HG1.out) (fun x _ h => by subst h; rfl)).trans (Chg.of_grown HG2.out) (fun x _ h => by subst h; rfl)
end Go.Proofs.YtapdfgnfblkncaaDoor
