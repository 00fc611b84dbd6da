/- Texts of one proof, one behind the other: Build, Patch, Apply, PatchLaws. -/
import Derived.Test.YtppkeophochgiaaGreatDoorB08
import Derived.Test.YtppkeophochgiaaGreatDoorB07
import Derived.Lib.Builder
import Derived.Test.YtppkeophochgiaaGreatDoorB19
import Derived.Test.YtppkeophochgiaaGreatDoorB20
import Derived.Test.YtppkeophochgiaaGreatDoorB22
/- Contracts of a strings.Builder that the call itself has made: WriteString, Len, String. -/
namespace Go.Proofs.YtppkeophochgiaaGreatDoor
open Go.RowKit

/-- a builder at block b holds these bytes; all that it owns lies from b on -/
def BAt (w : World) (b : Nat) (l : List UInt8) : Prop := Lib.IsBuilder 269 5 b b (l.map bv) w
theorem BAt.lt {w : World} {b : Nat} {l : List UInt8} (h : BAt w b l) : b < w.heap.size := by
  rcases h with h | h
  · exact h.lt
  · exact h.lt
theorem BAt.new (w : World) : BAt (w.alloc (.cells #[.pointer none, .slice none 0 0] 269)) w.heap.size [] :=
  .inl ⟨Nat.le_refl _, .slice none 0 0, heap_alloc_new _ _, World.ownsRow_nil _ _ _ _, by simp [Value.ownBlock]⟩
theorem BAt.below {w w' : World} {b : Nat} {l : List UInt8} (h : BAt w b l) (hb : Below w.heap.size w w') : BAt w' b l := by
  have hlt := h.lt
  have H : ∀ p, Lib.BuilderAt 269 5 b b p (l.map bv) w → Lib.BuilderAt 269 5 b b p (l.map bv) w' := by
    intro p h
    obtain ⟨hB, v, h1, h2, h3⟩ := h
    exact ⟨hB, v, (hb.block b hlt).trans h1, h2.kept (grownBy_below (r := none) hb) (by
      rcases v.ownBlock with _ | j
      · exact .inl rfl
      · exact .inr (by simp)), h3⟩
  rcases h with h | h
  · exact .inl (H _ h)
  · exact .inr (H _ h)

theorem bstring_any (b : Nat) (l : List UInt8) (w : World) (h : BAt w b l) :
    Calls Tryz.prog 183 #[.pointer (some ⟨b, 0, none⟩)] w fun e w' => e = .returned (.string (bs l)) ∧ Below b w w' := by
  have e : Lib.byteCells l = l.map bv := rfl
  have := Tryz.Builder_String_any b b l w (by rw [e]; exact h) (Nat.le_of_lt h.lt)
  rw [show bs l = ⟨l.toArray⟩ by unfold bs; rfl]
  exact this
theorem blen_any (b : Nat) (l : List UInt8) (w : World) (h : BAt w b l) :
    Calls Tryz.prog 275 #[.pointer (some ⟨b, 0, none⟩)] w fun e w' => e = .returned (.int .i64 l.length) ∧ w = w' := by
  have := Tryz.Builder_Len b b (l.map bv) w h
  simp only [List.length_map] at this
  exact this.mono fun _ _ h => ⟨h.1, h.2.symm⟩

theorem bat_grown {w w' : World} {b : Nat} {p v : Value} (hlt : b < w.heap.size) (hbk : w.heap[b]? = some (.cells #[p, v] 269 (0, 0))) (hne : v.ownBlock ≠ some b) (hg : w.grownBy w' v.ownBlock) :
    w'.cell? ⟨b, 1, none⟩ = some v ∧ w'.frozen? ⟨b, 1, none⟩ = false ∧ w'.heap[b]? = some (.cells #[p, v] 269 (0, 0)) := by
  have h : w'.heap[b]? = some (.cells #[p, v] 269 (0, 0)) := (hg.block b hlt (fun e => hne e.symm)).trans hbk
  exact ⟨by simp [World.cell?, h], by simp [World.frozen?, h], h⟩
theorem sizeBuilder : (Tryz.prog.info? 269).map (·.size) = some 2 := by kernel_rfl
theorem liesBuilder : liesAt Tryz.prog Tryz.prog.depth 269 (2 / Tryz.prog.cellsOf 269) 0 269 1 = true := by kernel_rfl
set_option maxRecDepth 100000 in
set_option maxHeartbeats 1600000 in
theorem copyCheck_any (b : Nat) (l : List UInt8) (w : World) (h : BAt w b l) :
    Calls Tryz.prog 207 #[.pointer (some ⟨b, 0, none⟩)] w fun e w' => e = .returned (.tuple #[]) ∧ Lib.BuilderAt 269 5 b b (.pointer (some ⟨b, 0, none⟩)) (l.map bv) w' ∧ Below b w w' := by
  obtain ⟨j, hj, hjs⟩ := Option.map_eq_some_iff.1 sizeBuilder
  rcases h with h | h
  · have c0 := h.cell0
    have f0 := h.frozen0
    have hsh := h.shape
    have hu := Lib.hid (h.used (.pointer (some ⟨b, 0, none⟩)))
    clear h
    go_enter Tryz.func207, Tryz.ntmps207
    go_wp2_with fail
    rw [Lib.run_to_unsafe w ⟨b, 0, none⟩ Tryz.underlying267 Tryz.underlying150 hj (by rw [hjs]; decide) hsh (Nat.zero_lt_succ 1)]
    simp only [Result.andThen]
    rw [Oper.upon_value]
    go_wp2_with fail
    rw [run_callFunc_extern Tryz.func240 (by kernel_rfl) (by kernel_rfl) (by kernel_rfl) (e := Extern.AbiNoEscape.same) (by kernel_rfl)]
    rw [Lib.run_noEscape]
    simp only [Result.andThen]
    rw [Oper.upon_value]
    go_wp2_with fail
    rw [Lib.run_from_unsafe w ⟨b, 0, none⟩ Tryz.underlying150 Tryz.underlying267 hj hsh liesBuilder]
    simp only [Result.andThen]
    rw [Oper.upon_value]
    go_wp2_with fail
    go_end0
    exact ⟨rfl, hu.out, (Below.refl b w).setCell (p := ⟨b, 0, none⟩) (Nat.le_refl _) _⟩
  · have c0 := h.cell0
    have H := Lib.hid h
    clear h
    go_enter Tryz.func207, Tryz.ntmps207
    go_wp2_with fail
    rw [Lib.run_neq_ptr_same w _ Tryz.underlying267 hj]
    go_wp2_with fail
    go_end0
    exact ⟨rfl, H.out, Below.refl b _⟩

set_option maxRecDepth 100000 in
set_option maxHeartbeats 1600000 in
theorem bwrite_any (b : Nat) (l m : List UInt8) (w : World) (h : BAt w b l) (hm : l.length + m.length ≤ 1000000000) :
    Calls Tryz.prog 182 #[.pointer (some ⟨b, 0, none⟩), .string (bs m)] w fun e w' => e = .returned (.tuple #[.int .i64 m.length, .nilIface]) ∧ BAt w' b (l ++ m) ∧ Below b w w' := by
  obtain ⟨i0, hi, hz0, hz1, hz2⟩ := info_parts infoU8
  have hlt := h.lt
  have HC := Lib.hid (copyCheck_any b l w h)
  have HM1 : Hid (l.length + (bs m).size ≤ maxLen) := by show _ ≤ _; rw [bs_size]; unfold maxLen; omega
  have HM2 : Hid (l.length + (bs m).size ≤ 140737488355328) := by show _ ≤ _; rw [bs_size]; omega
  have HFIN : Hid (∀ w', Lib.BuilderAt 269 5 b b (.pointer (some ⟨b, 0, none⟩)) (l.map bv ++ m.map bv) w' → BAt w' b (l ++ m)) := fun w' h => .inr (by rw [List.map_append]; exact h)
  clear h hm
  go_enter Tryz.func182, Tryz.ntmps182
  go_wp2_with fail
  refine HC.out.mono ?_
  rintro e w1 ⟨rfl, h1, hb1⟩
  obtain ⟨hB, v, hbk, hown, hne⟩ := h1
  rw [List.length_map] at hown
  have c0 : w1.cell? ⟨b, 0, none⟩ = some (.pointer (some ⟨b, 0, none⟩)) := by rw [Lib.cell_of_heap hbk]; rfl
  have c1 : w1.cell? ⟨b, 1, none⟩ = some v := by rw [Lib.cell_of_heap hbk]; rfl
  have hlt1 := Nat.lt_of_lt_of_le hlt hb1.size
  have HS := Lib.hid (Nat.le_trans (Nat.le_of_lt hlt) hb1.size)
  go_wp2_with (at_builtin; refine Lib.wpList_append_own_string _ rfl _ _ 107 9 rfl b 5 i0 Tryz.underlying107 Tryz.underlying9 hi hz0 hz1 hz2 _ _ _ rfl hown (bs m) rfl HM1.out HM2.out HS.out ?_; intro v' w2 hown' hgrow _; obtain ⟨A', q', rfl⟩ := owns_sl hown'; have T2 := bat_grown hlt1 hbk hne hgrow; have d1 := T2.1; have f1 := T2.2.1)
  go_ret2
  rw [strCells_bs, bs_size] at hown'
  exact ⟨rfl, HFIN.out _ (Lib.BuilderAt.put (T := 269) (e := 5) hB T2.2.2 (bs' := l.map bv ++ m.map bv) (by simpa using hown') (by decide)), (hb1.grown hgrow HS.out (fun k hk => (hown.lt k hk).1)).setCell (p := ⟨b, 1, none⟩) hB _⟩
end Go.Proofs.YtppkeophochgiaaGreatDoor
/- Contracts of patch.piece, patch.Apply. -/
namespace Go.Proofs.YtppkeophochgiaaGreatDoor
open Go.RowKit

theorem pieceC_data {old : List UInt8} {size : Nat} {o : POp} (h : o.kind = kData) : pieceC old size o = (0, o.data) := by unfold pieceC; rw [if_pos h]
theorem pieceC_none {old : List UInt8} {size : Nat} {o : POp} (h : o.kind ≠ kData) (h2 : (cntOf size old.length : Int) < o.a + o.n) : pieceC old size o = (6, []) := by unfold pieceC; rw [if_neg h, if_pos h2]
theorem pieceC_copy {old : List UInt8} {size : Nat} {o : POp} (h : o.kind ≠ kData) (h2 : ¬ (cntOf size old.length : Int) < o.a + o.n) : pieceC old size o = (0, (old.drop (o.a.toNat * size)).take (o.n.toNat * size)) := by unfold pieceC; rw [if_neg h, if_neg h2]

theorem wrap_nat (m : Nat) (h : m ≤ 1000000000) : wrap64 (m : Int) = m := by
  have := IntWalk.wrap64_in (m : Int) (by omega)
  exact this
theorem mul_wrap (a size : Nat) (h : a * size ≤ 1000000000) : Value.int .i64 (wrap64 ((a : Int) * (size : Int))) = Value.int .i64 ((a * size : Nat) : Int) := by
  congr 1
  rw [← Int.natCast_mul]; exact wrap_nat _ h
theorem add_mul_wrap (a n size : Nat) (h : (a + n) * size ≤ 1000000000) : Value.int .i64 (wrap64 (((a : Int) + (n : Int)) * (size : Int))) = Value.int .i64 (((a + n) * size : Nat) : Int) := by
  congr 1
  rw [← Int.natCast_add, ← Int.natCast_mul]; exact wrap_nat _ h
theorem extract_piece (old : List UInt8) (p r q e : Nat) (hq : q = p + r) (he : e = q ∧ q ≤ old.length ∨ e = old.length ∧ old.length ≤ q) : (bs old).extract p e = bs ((old.drop p).take r) := by
  refine eq_bs ?_
  simp only [ByteArray.data_extract, Array.toList_extract, List.extract_eq_take_drop, bs_list]
  rcases he with ⟨h1, h2⟩ | ⟨h1, h2⟩
  · congr 1; omega
  · rw [List.take_of_length_le (by simp; omega), List.take_of_length_le (by simp; omega)]
set_option maxRecDepth 100000 in
set_option maxHeartbeats 1600000 in
theorem piece_any (E : Nat → Addr) (old : List UInt8) (size : Nat) (o : POp) (w : World) (hold : old.length ≤ 4000) (hs1 : 1 ≤ size) (hs2 : size ≤ 64) (ho : opC o = 0) (h6 : Has E w 6) :
    Calls Tryz.prog 274 #[.string (bs old), .int .i64 size, o.val] w fun e w' => e = .returned (.tuple #[.string (bs (pieceC old size o).2), ev E (pieceC old size o).1]) ∧ Below w.heap.size w w' := by
  have z6 : 5 < w.heap.size := World.block_lt_of_cell? w _ h6
  have c6 : w.cell? ⟨5, 0, none⟩ = some (errv (E 6)) := h6
  have HA := Lib.hid (fun o => below_alloc' w o)
  have V0 := Lib.hid (ev_zero E)
  have V6 := Lib.hid (ev_is E (c := 6) (by decide))
  clear h6
  have HK := opC_kind ho
  rcases HK with hk | hk
  · obtain ⟨hD, a1, a2, n1, n2⟩ := opC_copy ho hk
    clear hD
    have P1 := Lib.hid (fun h => pieceC_none (old := old) (size := size) (o := o) (by rw [hk]; exact kne.symm) h)
    have P2 := Lib.hid (fun h => pieceC_copy (old := old) (size := size) (o := o) (by rw [hk]; exact kne.symm) h)
    obtain ⟨K, a, n, D⟩ := o
    simp only [] at hk a1 a2 n1 n2 P1 P2
    obtain ⟨a, rfl⟩ : ∃ x : Nat, a = x := ⟨a.toNat, by omega⟩
    obtain ⟨n, rfl⟩ : ∃ x : Nat, n = x := ⟨n.toNat, by omega⟩
    have k2 := tl_ne K [100, 97, 116, 97] (by rw [hk, ← kData_is]; exact kne.symm)
    have z0 : ¬ size = 0 := by omega
    have hq : ((old.length : Int) + size - 1) / size = ((cntOf size old.length : Nat) : Int) := by
      unfold cntOf
      have : ((old.length + size - 1 : Nat) : Int) = (old.length : Int) + size - 1 := by omega
      rw [Int.natCast_ediv, this]
    unfold POp.val
    simp only []
    clear hk ho
    by_cases hc : ((cntOf size old.length : Nat) : Int) < (a : Int) + n
    · have HP := Lib.hid (P1.out hc)
      clear P1 P2
      go_enter Tryz.func274, Tryz.ntmps274
      go_wp2_with fail
      go_quiet (fail)
      go_wp2_with fail
      go_ret2
      exact ⟨ret2 (by rw [HP.out, bs_nil]; rfl) (by rw [HP.out, V6.out]; rfl), below_drewN (HA.out _) _⟩
    · have hp2 := P2.out hc
      have hcI : (a : Int) + n ≤ ((cntOf size old.length : Nat) : Int) := by omega
      have hac : a < cntOf size old.length := by clear hq; omega
      have HQ := Lib.hid hq
      clear hq
      have hal := cnt_lt (by omega) hac
      have hm2 : (a + n) * size = a * size + n * size := Nat.add_mul _ _ _
      have hm4 : n * size ≤ 4000 * 64 := Nat.mul_le_mul (by omega) hs2
      have e1 := mul_wrap a size (by omega)
      have e2 := add_mul_wrap a n size (by omega)
      have HX := Lib.hid (fun e he => extract_piece old (a * size) (n * size) ((a + n) * size) e hm2 he)
      rw [show ((a : Int)).toNat = a by omega, show ((n : Int)).toNat = n by omega] at hp2
      have HP2 := Lib.hid hp2
      have hpl : a * size ≤ old.length := by omega
      have hpq0 : a * size ≤ (a + n) * size := by omega
      clear P1 P2 hal hac hm2 hm4 hp2
      have hq := HQ.out
      generalize a * size = p at *
      generalize (a + n) * size = q at *
      generalize n * size = r at *
      by_cases hq2 : q ≤ old.length
      · have hq2I : (q : Int) ≤ old.length := by omega
        have e3 : Value.int .i64 (min (q : Int) (old.length : Int)) = Value.int .i64 q := by congr 1; omega
        have hpq : p ≤ q := hpq0
        have HX2 := Lib.hid (HX.out q (.inl ⟨rfl, hq2⟩))
        go_enter Tryz.func274, Tryz.ntmps274
        go_wp2_with fail
        go_ret2
        exact ⟨ret2 (by rw [HP2.out]; exact congrArg Value.string HX2.out) (by rw [HP2.out, V0.out]; rfl), HA.out _⟩
      · have e3 : Value.int .i64 (min (q : Int) (old.length : Int)) = Value.int .i64 old.length := by congr 1; omega
        have hpq : p ≤ old.length := hpl
        have HX2 := Lib.hid (HX.out old.length (.inr ⟨rfl, by omega⟩))
        go_enter Tryz.func274, Tryz.ntmps274
        go_wp2_with fail
        go_ret2
        exact ⟨ret2 (by rw [HP2.out]; exact congrArg Value.string HX2.out) (by rw [HP2.out, V0.out]; rfl), HA.out _⟩
  · have HP := Lib.hid (pieceC_data (old := old) (size := size) hk)
    have k2 := tl_eq o.kind [100, 97, 116, 97] (by rw [hk, ← kData_is])
    unfold POp.val
    clear hk ho
    go_enter Tryz.func274, Tryz.ntmps274
    go_wp2_with fail
    go_ret2
    exact ⟨ret2 (by rw [HP.out]; rfl) (by rw [HP.out, V0.out]; rfl), HA.out _⟩
end Go.Proofs.YtppkeophochgiaaGreatDoor
/- Contract of patch.Apply. -/
namespace Go.Proofs.YtppkeophochgiaaGreatDoor
open Go.RowKit

theorem appA_bad {old : List UInt8} {size : Nat} {l : List POp} {k : Nat} {out : List UInt8} (h : k < l.length) (hb : (pieceC old size l[k]).1 ≠ 0) : appA old size (l.drop k) k out = (((pieceC old size l[k]).1, (k : Int)), []) := by
  rw [List.drop_eq_getElem_cons h, appA, if_pos hb]
theorem appA_full {old : List UInt8} {size : Nat} {l : List POp} {k : Nat} {out : List UInt8} (h : k < l.length) (hb : (pieceC old size l[k]).1 = 0) (hf : 4000 < out.length + (pieceC old size l[k]).2.length) : appA old size (l.drop k) k out = ((8, (k : Int)), []) := by
  rw [List.drop_eq_getElem_cons h, appA, if_neg (by simp [hb]), if_pos hf]
theorem appA_next {old : List UInt8} {size : Nat} {l : List POp} {k : Nat} {out : List UInt8} (h : k < l.length) (hb : (pieceC old size l[k]).1 = 0) (hf : ¬ 4000 < out.length + (pieceC old size l[k]).2.length) : appA old size (l.drop k) k out = appA old size (l.drop (k + 1)) (k + 1) (out ++ (pieceC old size l[k]).2) := by
  rw [List.drop_eq_getElem_cons h, appA, if_neg (by simp [hb]), if_neg hf]
theorem appA_end {old : List UInt8} {size : Nat} {l : List POp} {k : Nat} {out : List UInt8} (h : l.length ≤ k) : appA old size (l.drop k) k out = ((0, -1), out) := by
  rw [List.drop_eq_nil_of_le h, appA]
theorem appl_no {old : List UInt8} {size : Int} {l : List POp} (h : ¬ ((1 ≤ size ∧ size ≤ 64) ∧ old.length ≤ 4000)) : appl old size l = ((2, -1), []) := by unfold appl; rw [if_neg h]
theorem appl_bad {old : List UInt8} {size : Int} {l : List POp} (h : (1 ≤ size ∧ size ≤ 64) ∧ old.length ≤ 4000) (hc : (chkOps l).1 ≠ 0) : appl old size l = (chkOps l, []) := by unfold appl; rw [if_pos h, if_neg hc]
theorem appl_yes {old : List UInt8} {size : Int} {l : List POp} (h : (1 ≤ size ∧ size ≤ 64) ∧ old.length ≤ 4000) (hc : (chkOps l).1 = 0) : appl old size l = appA old size.toNat l 0 [] := by unfold appl; rw [if_pos h, if_pos hc]
theorem pieceC_cases (old : List UInt8) (size : Nat) (o : POp) : (pieceC old size o).1 = 0 ∨ (pieceC old size o).1 = 6 := by
  unfold pieceC; (repeat' split) <;> simp
theorem pieceC_len {old : List UInt8} {size : Nat} {o : POp} (ho : opC o = 0) (hs : old.length ≤ 4000) : (pieceC old size o).2.length ≤ 4000 := by
  rcases opC_kind ho with hk | hk
  · by_cases h2 : (cntOf size old.length : Int) < o.a + o.n
    · rw [pieceC_none (by rw [hk]; exact kne.symm) h2]; simp
    · rw [pieceC_copy (by rw [hk]; exact kne.symm) h2]; simp; omega
  · rw [pieceC_data hk]; exact (opC_data ho hk).2.2.2

set_option maxRecDepth 100000 in
set_option maxHeartbeats 3200000 in
theorem apply_any (E : Nat → Addr) (old : List UInt8) (size : Int) (s0 : Option Addr) (n0 c0 : Nat) (l : List POp) (w : World) (hl : SliceIs w (.slice s0 n0 c0) 4 (ocells l))
    (h2 : Has E w 2) (h3 : Has E w 3) (h4 : Has E w 4) (h6 : Has E w 6) (h8 : Has E w 8) :
    Calls Tryz.prog 267 #[.string (bs old), .int .i64 size, .slice s0 n0 c0] w fun e w' => ∃ v, e = .returned (.tuple #[.string (bs (appl old size l).2), v]) ∧ FErr E w' v (appl old size l).1.1 (appl old size l).1.2 ∧ Below w.heap.size w w' := by
  by_cases hok : (1 ≤ size ∧ size ≤ 64) ∧ old.length ≤ 4000
  · obtain ⟨rfl, hc0, hc1⟩ := ops_len hl
    have HCK := Lib.hid (dcheck_any E s0 l.length c0 l w hl h2 h3 h4)
    obtain ⟨⟨hs1, hs2⟩, hol⟩ := id hok
    have holI : ¬ (4000 : Int) < old.length := by omega
    by_cases hck : (chkOps l).1 = 0
    · have happ := appl_yes (l := l) hok hck
      have hall := (chkOps_ok l).1 hck
      obtain ⟨z, rfl⟩ : ∃ z : Nat, size = z := ⟨size.toNat, by omega⟩
      have HAP : Hid (appl old (z : Int) l = appA old z (l.drop 0) 0 []) := happ
      have HLS := Lib.hid hl
      have HALL := Lib.hid hall
      have HCC := Lib.hid hck
      have H6 := Lib.hid h6
      have H8 := Lib.hid h8
      have hz1 : 1 ≤ z := by omega
      have hz2 : z ≤ 64 := by omega
      clear happ hall hck hl h2 h3 h4 h6 h8 hok
      go_enter Tryz.func267, Tryz.ntmps267
      go_wp2_with fail
      refine HCK.out.mono ?_
      rintro e w1 ⟨v1, rfl, fe, b1⟩
      rw [HCC.out] at fe
      rw [fe.zero]
      clear fe
      have B0 := BAt.new w1
      have bA := b1.alloc b1.size (.cells #[.pointer none, .slice none 0 0] 269)
      have hb : w.heap.size ≤ w1.heap.size := b1.size
      go_wp2_with fail
      generalize w1.alloc (.cells #[.pointer none, .slice none 0 0] 269) = w2 at B0 bA ⊢
      generalize w1.heap.size = b at B0 hb ⊢
      clear b1
      go_loopw [33, 10, 11, 12, 13] (fun i _ _ _ _ wr => ∃ (k : Nat) (out : List UInt8), i = .int .i64 k ∧ k ≤ l.length ∧ out.length ≤ 4000 ∧ appl old (z : Int) l = appA old z (l.drop k) k out ∧ BAt wr b out ∧ Below w.heap.size w wr) (fun i _ _ _ _ _ => l.length - (intOf i).toNat)
      case atStart => exact ⟨0, [], rfl, by omega, by simp, HAP.out, B0, bA⟩
      case round =>
        clear B0 bA
        obtain ⟨k, out, rfl, hk, hout, hf, B, bel⟩ := hrel
        have HF := Lib.hid hf
        clear hf
        by_cases hlt : k < l.length
        · have hltI : (k : Int) < l.length := by omega
          obtain ⟨ad, rfl, d0, d1, d2, d3⟩ := ops_cells (HLS.out.below bel) k hlt
          have KK := Lib.hid (show k + 1 ≤ l.length by omega)
          have BAD := Lib.hid (fun hb => HF.out.trans (appA_bad (old := old) (size := z) (out := out) hlt hb))
          have FULL := Lib.hid (fun hb hf => HF.out.trans (appA_full (old := old) (size := z) (out := out) hlt hb hf))
          have NEXT := Lib.hid (fun hb hf => HF.out.trans (appA_next (old := old) (size := z) (out := out) hlt hb hf))
          have x1 : (0 : Int) ≤ k := by omega
          have x2 : (k : Int).toNat = k := by omega
          have ho := HALL.out _ (List.getElem_mem hlt)
          generalize l[k] = o at d0 d1 d2 d3 BAD FULL NEXT ho
          have belA := bel.alloc bel.size (.cells #[.string (bs o.kind), .int .i64 o.a, .int .i64 o.n, .string (bs o.data)] 106)
          have BA := B.below (below_alloc' wr (.cells #[.string (bs o.kind), .int .i64 o.a, .int .i64 o.n, .string (bs o.data)] 106))
          have PC := piece_any E old z o (wr.alloc (.cells #[.string (bs o.kind), .int .i64 o.a, .int .i64 o.n, .string (bs o.data)] 106)) hol hz1 hz2 ho (H6.out.below belA)
          have hpl := pieceC_len (size := z) ho hol
          unfold POp.val at PC
          have hcs := pieceC_cases old z o
          generalize (pieceC old z o).1 = c at *
          generalize (pieceC old z o).2 = m at *
          by_cases hc : c = 0
          · subst hc
            rw [ev_zero] at PC
            have HP := Lib.hid PC
            clear PC hcs ho
            by_cases hfull : 4000 < out.length + m.length
            · have hfullI : (4000 : Int) < (out.length : Int) + m.length := by omega
              have N := Lib.hid (FULL.out rfl hfull)
              clear BAD FULL NEXT
              go_wp2_with fail
              refine HP.out.mono ?_
              rintro e w3 ⟨rfl, b3⟩
              have bel3 := below_trans' belA b3
              have B3 := BA.below b3
              have c8 : w3.cell? ⟨7, 0, none⟩ = some (errv (E 8)) := H8.out.below bel3
              unfold errv at c8
              clear BA belA b3 HP B bel
              go_wp2_with (go_at_call 275; refine (blen_any b out w3 B3).mono ?_; rintro e w4 ⟨rfl, rfl⟩)
              go_ret2
              exact ⟨_, by rw [N.out, bs_nil]; rfl, FErr.new E _ _ (by decide) _ _ (by simp) _ (by rw [N.out]), bel3.alloc bel3.size _⟩
            · have hfullI : ¬ (4000 : Int) < (out.length : Int) + m.length := by omega
              have N := Lib.hid (NEXT.out rfl hfull)
              clear BAD FULL NEXT
              go_wp2_with fail
              refine HP.out.mono ?_
              rintro e w3 ⟨rfl, b3⟩
              have bel3 := below_trans' belA b3
              have B3 := BA.below b3
              clear BA belA b3 HP B bel
              go_wp2_with (go_at_call 275; refine (blen_any b out w3 B3).mono ?_; rintro e w4 ⟨rfl, rfl⟩)
              refine (bwrite_any b out m w3 B3 (by omega)).mono ?_
              rintro e w4 ⟨rfl, B4, b4⟩
              have bel4 := bel3.trans (b4.mono hb)
              clear B3 bel3 b4
              go_wp2_with fail
              go_roundw
              case rel => exact ⟨k + 1, out ++ m, by go_num, KK.out, by simp; omega, N.out, B4, bel4⟩
              case measure => simp [intOf]; omega
          · have N := Lib.hid (BAD.out hc)
            have HC := Lib.hid hc
            rw [ev_is E hc] at PC
            unfold errv at PC
            have HP := Lib.hid PC
            clear PC hcs hc BAD FULL NEXT ho
            go_wp2_with fail
            refine HP.out.mono ?_
            rintro e w3 ⟨rfl, b3⟩
            have bel3 := below_trans' belA b3
            clear BA belA b3 HP B bel
            go_wp2_with fail
            go_ret2
            exact ⟨_, by rw [N.out, bs_nil]; rfl, FErr.new E _ _ HC.out _ _ (by simp) _ (by rw [N.out]), bel3.alloc bel3.size _⟩
        · have hltI : ¬ (k : Int) < l.length := by omega
          have N := Lib.hid (HF.out.trans (appA_end (old := old) (size := z) (out := out) (by omega : l.length ≤ k)))
          have BS := Lib.hid (bstring_any b out wr B)
          go_wp2_with fail
          refine BS.out.mono ?_
          rintro e w5 ⟨rfl, b5⟩
          go_wp2_with fail
          go_ret2
          exact ⟨_, by rw [N.out]; rfl, by rw [N.out]; exact FErr.nil E _, bel.trans (b5.mono hb)⟩
    · have happ := Lib.hid (appl_bad (l := l) hok hck)
      have HC := Lib.hid hck
      clear hl h2 h3 h4 h6 h8 hok hck
      go_enter Tryz.func267, Tryz.ntmps267
      go_wp2_with fail
      refine HCK.out.mono ?_
      rintro e w1 ⟨v1, rfl, fe, b1⟩
      have FE := Lib.hid fe
      obtain ⟨t, p, hv⟩ := fe.some HC.out
      rw [hv] at FE ⊢
      clear fe hv
      go_wp2_with fail
      go_ret2
      exact ⟨_, by rw [happ.out, bs_nil]; rfl, by rw [happ.out]; exact FE.out, b1⟩
  · have c2 : w.cell? ⟨0, 0, none⟩ = some (errv (E 2)) := h2
    have happ := Lib.hid (appl_no (l := l) hok)
    have hno : size < 1 ∨ ¬ size < 1 ∧ (64 < size ∨ ¬ 64 < size ∧ (4000 : Int) < old.length) := by omega
    clear hl h2 h3 h4 h6 h8 hok
    rcases hno with h | ⟨h, h' | ⟨h', h''⟩⟩
    all_goals
      go_enter Tryz.func267, Tryz.ntmps267
      go_wp2_with fail
      go_quiet (fail)
      go_wp2_with fail
      go_ret2
      exact ⟨_, by rw [happ.out, bs_nil]; rfl, by rw [happ.out]; exact FErr.bare E _ (by decide), below_drewN (Below.refl _ _) _⟩
end Go.Proofs.YtppkeophochgiaaGreatDoor
/- Plain laws: ops in two parts put together what they do at once; data costs what it is. -/
namespace Go.Proofs.YtppkeophochgiaaGreatDoor
open Go.RowKit

def catP (old : List UInt8) (size : Nat) (l : List POp) : List UInt8 := l.flatMap fun o => (pieceC old size o).2
theorem catP_append (old : List UInt8) (size : Nat) (a b : List POp) : catP old size (a ++ b) = catP old size a ++ catP old size b := by simp [catP]
theorem catP_cons (old : List UInt8) (size : Nat) (o : POp) (l : List POp) : catP old size (o :: l) = (pieceC old size o).2 ++ catP old size l := by simp [catP]
theorem appA_cons (old : List UInt8) (size : Nat) (o : POp) (l : List POp) (i : Nat) (out : List UInt8) : appA old size (o :: l) i out =
    if (pieceC old size o).1 ≠ 0 then (((pieceC old size o).1, (i : Int)), []) else if 4000 < out.length + (pieceC old size o).2.length then ((8, (i : Int)), []) else appA old size l (i + 1) (out ++ (pieceC old size o).2) := by rw [appA]
theorem appA_nil (old : List UInt8) (size : Nat) (i : Nat) (out : List UInt8) : appA old size [] i out = ((0, -1), out) := by rw [appA]
theorem appA_zero (old : List UInt8) (size : Nat) : ∀ (l : List POp) (i : Nat) (out : List UInt8), out.length ≤ 4000 → (appA old size l i out).1.1 = 0 →
    (appA old size l i out) = ((0, -1), out ++ catP old size l) ∧ (∀ o ∈ l, (pieceC old size o).1 = 0) ∧ out.length + (catP old size l).length ≤ 4000
  | [], i, out, ho, h => by rw [appA_nil]; simp [catP, ho]
  | o :: l, i, out, ho, h => by
    rw [appA_cons] at h ⊢
    split at h
    · rename_i hb; simp at h; exact absurd h hb
    · rename_i hb
      split at h
      · simp at h
      · rename_i hf
        rw [if_neg hb, if_neg hf]
        obtain ⟨h1, h2, h3⟩ := appA_zero old size l (i + 1) _ (by simp; omega) h
        rw [h1, catP_cons]
        refine ⟨by simp, fun x hx => ?_, by simp at h3 ⊢; omega⟩
        rcases List.mem_cons.1 hx with rfl | hx
        · simpa using hb
        · exact h2 x hx
theorem appA_fine (old : List UInt8) (size : Nat) : ∀ (l : List POp) (i : Nat) (out : List UInt8), (∀ o ∈ l, (pieceC old size o).1 = 0) → out.length + (catP old size l).length ≤ 4000 →
    appA old size l i out = ((0, -1), out ++ catP old size l)
  | [], i, out, _, _ => by rw [appA_nil]; simp [catP]
  | o :: l, i, out, h, h2 => by
    rw [catP_cons] at h2 ⊢
    simp at h2
    rw [appA_cons, if_neg (by simp [h o (by simp)]), if_neg (by omega), appA_fine old size l (i + 1) _ (fun x hx => h x (by simp [hx])) (by simp; omega)]
    simp
theorem appl_zero {old : List UInt8} {size : Int} {l : List POp} (h : (appl old size l).1.1 = 0) :
    ((1 ≤ size ∧ size ≤ 64) ∧ old.length ≤ 4000) ∧ (∀ o ∈ l, opC o = 0) ∧ appl old size l = ((0, -1), catP old size.toNat l) ∧ (∀ o ∈ l, (pieceC old size.toNat o).1 = 0) ∧ (catP old size.toNat l).length ≤ 4000 := by
  by_cases hok : (1 ≤ size ∧ size ≤ 64) ∧ old.length ≤ 4000
  · by_cases hc : (chkOps l).1 = 0
    · rw [appl_yes hok hc] at h ⊢
      obtain ⟨h1, h2, h3⟩ := appA_zero old size.toNat l 0 [] (by simp) h
      exact ⟨hok, (chkOps_ok l).1 hc, by rw [h1]; simp, h2, by simpa using h3⟩
    · rw [appl_bad hok hc] at h; exact absurd h hc
  · rw [appl_no hok] at h; simp at h
theorem appl_fine {old : List UInt8} {size : Int} {l : List POp} (hok : (1 ≤ size ∧ size ≤ 64) ∧ old.length ≤ 4000) (h1 : ∀ o ∈ l, opC o = 0) (h2 : ∀ o ∈ l, (pieceC old size.toNat o).1 = 0) (h3 : (catP old size.toNat l).length ≤ 4000) :
    appl old size l = ((0, -1), catP old size.toNat l) := by
  rw [appl_yes hok ((chkOps_ok l).2 h1), appA_fine old size.toNat l 0 [] h2 (by simpa using h3)]; simp
end Go.Proofs.YtppkeophochgiaaGreatDoor
