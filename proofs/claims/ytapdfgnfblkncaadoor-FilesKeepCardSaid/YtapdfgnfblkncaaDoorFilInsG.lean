/- Contract of slices.Insert at files, ahead of the end, where the row must grow. -/
import Derived.Test.YtapdfgnfblkncaaDoorFilIns
namespace Go.Proofs.YtapdfgnfblkncaaDoor
open Go.RowKit
set_option linter.unusedVariables false

theorem file_zero : ∃ i0 z, Tryd.prog.info? 75 = some i0 ∧ i0.zero = some z ∧ i0.size = 2 ∧ i0.bytes = 32 ∧ z.cells.size = 2 := by
  obtain ⟨i0, hi, hz0, hz1, hz2⟩ := info_parts infoFile
  exact ⟨i0, _, hi, hz0, hz1, hz2, rfl⟩
theorem grow_cells (l : List PF) (f : PF) (zs : List Value) {i k : Nat} (hi : i < l.length) (hk : i + k = l.length + 1) (hzs : zs.length = k * 2) :
    (((fcells l).take (i * 2) ++ zs).take (i * 2) ++ fcells [f] ++ ((fcells l).take (i * 2) ++ zs).drop ((i + 1) * 2)).take ((i + 1) * 2) ++ fcells (l.drop i) ++ (((fcells l).take (i * 2) ++ zs).take (i * 2) ++ fcells [f] ++ ((fcells l).take (i * 2) ++ zs).drop ((i + 1) * 2)).drop ((i + 1 + (k - 1)) * 2) = fcells (l.take i ++ f :: l.drop i) := by
  have h1 : ((fcells l).take (i * 2)).length = i * 2 := by rw [List.length_take, fcells_len]; omega
  have h2 : ((fcells l).take (i * 2) ++ zs).take (i * 2) = fcells (l.take i) := by rw [List.take_append_of_le_length (by rw [h1]; exact Nat.le_refl _), List.take_take, Nat.min_self, fcells_take]
  have h4 : (fcells (l.take i) ++ fcells [f]).length = (i + 1) * 2 := by rw [List.length_append, fcells_len, fcells_len, List.length_take]; simp; omega
  rw [h2]
  have h5 : (fcells (l.take i) ++ fcells [f] ++ ((fcells l).take (i * 2) ++ zs).drop ((i + 1) * 2)).drop ((i + 1 + (k - 1)) * 2) = [] := List.drop_of_length_le (by rw [List.length_append, h4, List.length_drop, List.length_append, h1, hzs]; omega)
  rw [h5, List.append_nil, List.take_append_of_le_length (by rw [h4]; exact Nat.le_refl _), List.take_of_length_le (by rw [h4]; exact Nat.le_refl _), fcells_append, List.append_assoc]
  rfl
set_option maxRecDepth 100000 in
set_option maxHeartbeats 6400000 in
theorem ins_grow (l : List PF) (f : PF) (i base vb g cap : Nat) (w : World) (hown : w.ownsRow base 75 2 (.slice (some ⟨g, 0, none⟩) l.length cap) l.length (fcells l)) (hvb : w.heap[vb]? = some (.cells #[.string (bs f.n), .string (bs f.d)] 75 (0, 0))) (hi : i < l.length) (hroom : cap < l.length + 1) (hbase : base ≤ w.heap.size) (hlen : l.length ≤ 1000000) :
    Calls Tryd.prog 64 #[.slice (some ⟨g, 0, none⟩) l.length cap, .int .i64 i, .slice (some ⟨vb, 0, none⟩) 1 1] w fun e w' => ∃ r, e = .returned r ∧ w'.ownsRow base 75 2 r (l.length + 1) (fcells (l.take i ++ f :: l.drop i)) ∧ Chg w w' (RowOf (.slice (some ⟨g, 0, none⟩) l.length cap)) := by
  obtain ⟨k, hk⟩ : ∃ k, i + k = l.length + 1 := ⟨l.length + 1 - i, by omega⟩
  obtain ⟨i0, z, hi0, hz0, hz1, hz2, hz3⟩ := file_zero
  have hcl : (fcells (l.drop i)).length = (k - 1) * 2 := by rw [fcells_len, List.length_drop]; omega
  have hg0 : ∃ cur, w.heap[g]? = some (.cells cur 75 (0, 0)) := by
    obtain ⟨_, h2⟩ := hown
    rcases h2 with ⟨h2, _⟩ | ⟨g', cap', cur, hv, _, hh, h3, _, h5, _⟩
    · cases h2
    · cases hv; exact ⟨cur, hh⟩
  obtain ⟨cur, hg1⟩ := hg0
  have hgl := lt_of_block hg1
  have hvl := lt_of_block hvb
  obtain ⟨w1, G, hrun0, O0, B0⟩ := run_append_zeros_own (t := 59) (tn := 3) hown Tryd.underlying59 Tryd.underlying3 hi0 hz0 hz1 hz2 hz3 (by decide) (i := i) (k := k) (by omega) (by omega) (by omega) (by unfold maxLen; omega) (by omega) hbase
  obtain ⟨w2, hrun1, O1, G1⟩ := run_copy_own (dT := 59) (sT := 59) O0 Tryd.underlying59 sizeFile (o := i) (m := 1) (fcells_len [f]) (by omega) (fcells_cell [f])
  obtain ⟨w3, hrun2, O2, G2⟩ := run_copy_own (dT := 59) (sT := 59) O1.drew Tryd.underlying59 sizeFile (o := i + 1) (m := k - 1) hcl (by omega) (fcells_cell _)
  rw [grow_cells l f _ hi hk (by rw [Array.length_toList, size_zeroCells, hz3])] at O2
  have hvw1 : w1.heap[vb]? = some (.cells #[.string (bs f.n), .string (bs f.d)] 75 (0, 0)) := (B0.block vb hvl).trans hvb
  have hgw2 : w2.heap[g]? = w.heap[g]? := (G1.block g (Nat.lt_of_lt_of_le hgl B0.size) (fun e => by cases e; omega)).trans (B0.block g hgl)
  have HRUN0 := Lib.hid hrun0
  have HRUN1 := Lib.hid hrun1
  have HRUN2 := Lib.hid hrun2
  have HO2 := Lib.hid O2
  have HB0 := Lib.hid B0
  have HG1 := Lib.hid G1
  have HG2 := Lib.hid G2
  have SRC1 := Lib.hid (two_newsF hvw1)
  have SRC2 : Hid (∀ j v, (fcells (l.drop i))[j]? = some v → w2.drew.cell? ((⟨g, i * 2, none⟩ : Addr).add j) = some v) := Lib.hid (fun j v hj => by
    have h1 := (hown.cells (g := g) rfl) (i * 2 + j) v (by
      rw [← fcells_drop, List.getElem?_drop] at hj
      exact hj)
    rw [Addr.add_lit] at h1 ⊢
    rw [Nat.zero_add] at h1
    have h2 : w2.drew.heap[g]? = w.heap[g]? := hgw2
    simp only [World.cell?] at h1 ⊢
    rw [h2]
    exact h1)
  have MIN1 := Lib.hid (show Nat.min 1 (l.length + 1 - i) = 1 by simp only [Nat.min_def]; split <;> omega)
  have MIN2 := Lib.hid (show Nat.min (l.length - i) (l.length + 1 - (i + 1)) = k - 1 by simp only [Nat.min_def]; split <;> omega)
  have yl : l.length ≤ cap := by have := (SliceIs.ownedK hown).get; obtain ⟨s, n, c, e, _, h1, h2, _⟩ := this; cases e; omega
  have y1 : (0 : Int) ≤ i := by omega
  have y2 : (i : Int).toNat = i := by omega
  have y3 : (i : Int) ≤ l.length := by omega
  have y4 : ¬ ((i : Int) = l.length) := by omega
  have y5 : ((i : Int) == l.length) = false := by simpa using y4
  have y6 : (cap : Int) < (l.length : Int) + 1 := by omega
  have y7 : (i : Int) ≤ cap := by omega
  have yG : l.length + 1 ≤ G := by have := (SliceIs.ownedK O0).get; obtain ⟨s, n, c, e, _, h1, h2, _⟩ := this; cases e; omega
  have yc : ¬ G = i + 1 := by omega
  have yi : (i : Int) + 1 ≤ (l.length : Int) + 1 := by omega
  have yj : (i : Int) ≤ (l.length : Int) + 1 := by omega
  have yk : ¬ cap = i := by omega
  have y8 : (l.length : Int) + 1 - i = k := by omega
  have yb : IntKind.i64.wrap (k : Int) = k := IntWalk.i64_in _ (by omega)
  have Y := Lib.hid (show (l.length : Int) + 1 - i = k from y8)
  have yd : IntKind.i64.wrap ((i : Int) + 1) = (i : Int) + 1 := IntWalk.i64_in _ (by omega)
  have ye : (0 : Int) ≤ (i : Int) + 1 := by omega
  have ya : (i : Int) + 1 ≤ (i : Int) + k := by omega
  have yf : ((i : Int) + 1).toNat = i + 1 := by omega
  have yg : (i : Int) ≤ (i : Int) + k := by omega
  have LT := Lib.hid (And.intro hgl hvl)
  have HROOM := Lib.hid hroom
  have HI := Lib.hid hi
  have HK := Lib.hid hk
  clear hown hvb hrun0 hrun1 hrun2 O0 O1 O2 B0 G1 G2 hvw1 hg1 hgw2 hcl hi0 hz0 hz1 hz2 hz3 hgl hvl hroom hbase y4
  clear i0 z cur
  go_enter Tryd.func64, Tryd.ntmps64
  go_wp2_with (first | refine wpList_append_run rfl (.tmp 34) (.tmp 39) 59 3 rfl (.slice (some ⟨g, 0, none⟩) i cap) (.int .i64 k) rfl rfl (HRUN0.out _) ?_ | refine wpList_copy_run rfl (.tmp 43) (.tmp 44) 59 59 rfl _ _ rfl rfl (HRUN1.out _ (l.length + 1 - i) (G - i) ⟨vb, 0, none⟩ 1 1 MIN1.out SRC1.out) ?_)
  go_region_law (refine step_copy_run rfl (.tmp 50) (.tmp 53) 59 59 rfl _ _ (by simp [Act.eval, Act.put]) (by simp [Act.eval, Act.put]) (HRUN2.out _ (l.length + 1 - (i + 1)) (G - (i + 1)) ⟨g, i * 2, none⟩ (l.length - i) (cap - i) MIN2.out SRC2.out) ?_)
  all_goals
    go_wp2_with fail
    go_ret
    refine ⟨_, rfl, (show w3.ownsRow base 75 2 (.slice (some ⟨w.heap.size, 0, none⟩) (l.length + 1) G) (l.length + 1) (fcells (l.take i ++ f :: l.drop i)) by rw [← hk]; exact HO2.out), ?_⟩
    exact (((Chg.of_below HB0.out (RowOf (.slice (some ⟨g, 0, none⟩) l.length cap))).trans (Chg.of_grown HG1.out) (fun x hx h => absurd hx (by subst h; exact Nat.lt_irrefl _))).drew.trans (Chg.of_grown HG2.out) (fun x hx h => absurd hx (by subst h; exact Nat.lt_irrefl _)))
set_option maxRecDepth 100000 in
/-- slices.Insert of one file -/
theorem insert_any (l : List PF) (f : PF) (i base vb : Nat) (v : Value) (w : World) (hown : w.ownsRow base 75 2 v l.length (fcells l)) (hvb : w.heap[vb]? = some (.cells #[.string (bs f.n), .string (bs f.d)] 75 (0, 0))) (hne : ¬ RowOf v vb) (hi : i ≤ l.length) (hbase : base ≤ w.heap.size) (hlen : l.length ≤ 1000000) :
    Calls Tryd.prog 64 #[v, .int .i64 i, .slice (some ⟨vb, 0, none⟩) 1 1] w fun e w' => ∃ r, e = .returned r ∧ w'.ownsRow base 75 2 r (l.length + 1) (fcells (l.take i ++ f :: l.drop i)) ∧ Chg w w' (RowOf v) := by
  by_cases he : i = l.length
  · subst he
    refine (ins_end l f base vb v w hown hvb hbase hlen).mono ?_
    rintro e w' ⟨r, rfl, h1, h2⟩
    exact ⟨r, rfl, by rw [List.take_length, List.drop_length]; exact h1, h2⟩
  · have hv : ∃ g cap, v = .slice (some ⟨g, 0, none⟩) l.length cap := by
      obtain ⟨_, h2⟩ := hown
      rcases h2 with ⟨_, h2⟩ | ⟨g', cap', cur, hv, _, hh, h3, _, h5, _⟩
      · omega
      · exact ⟨g', cap', hv⟩
    obtain ⟨g, cap, rfl⟩ := hv
    by_cases hr : l.length + 1 ≤ cap
    · exact ins_room l f i base vb g cap w hown hvb (fun e => hne (by subst e; rfl)) (by omega) hr hlen
    · exact ins_grow l f i base vb g cap w hown hvb (by omega) (by omega) hbase hlen
end Go.Proofs.YtapdfgnfblkncaaDoor
